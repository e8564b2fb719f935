/-
  What some of the program's functions compute: their models, and that the functions compute these; no condition.
-/
import Derived.Test.YthgcnnkjojemdaaTyz
import Derived.Test.YthgcnnkjojemdaaTbz
import Derived.Test.YthgcnnkjojemdaaKz2
set_option linter.all false
namespace Go.Proofs.Ythgcnnkjojemdaa
open Go Go.Ab
set_option maxRecDepth 100000
set_option maxHeartbeats 4000000
noncomputable def spec_l85Vector_r10_15_m (a0:l81Rd) (a1:TreeWorld):Option (TreeVector × l81Rd × TreeWorld) :=
 bd (spec_l81Rd_pick_m a0 ((a1.Bridges.length:Nat):Int)) fun x1 =>
 gd ((0:Int)≤x1.1∧x1.1<((a1.Bridges.length:Nat):Int)) <|
 bd (α:=Int × Int) (bd (spec_l81Rd_pick_m (⟨a0.b,x1.2.p⟩:l81Rd) 2) fun x6 =>
(if (x6.1 == 0) = true then
 bd (spec_l81Rd_pick_m (⟨a0.b,x6.2.p⟩:l81Rd) 4) fun x7 =>
 gd ((0:Int)≤x7.1∧x7.1<((([1,2,3,1000]:List Int).length:Nat):Int)) <|
 some (x7.2.p,(([1,2,3,1000]:List Int).getD x7.1.toNat default))
else
 some (x6.2.p,(a1.Bridges.getD x1.1.toNat default).Id))) fun x3 =>
 bd (spec_l81Rd_pick_m (⟨a0.b,x3.1⟩:l81Rd) 6) fun x9 =>
 gd ((0:Int)≤x9.1∧x9.1<((([0,1,2,9,100,1000]:List Int).length:Nat):Int)) <|
 bd (spec_l81Rd_pick_m (⟨a0.b,x9.2.p⟩:l81Rd) 11) fun x11 =>
 some ((⟨x3.2,(([0,1,2,9,100,1000]:List Int).getD x9.1.toNat default),x11.1⟩:TreeVector),(⟨a0.b,x11.2.p⟩:l81Rd),a1)
theorem spec_l85Vector_r10_15_c {a0:l81Rd} {a1:TreeWorld} {r:TreeVector × l81Rd × TreeWorld} (h:spec_l85Vector_r10_15_m a0 a1 = some r):EffC Try.prog 118 [.ref 9000 0 0,.agg [.osl 9001 0 a1.Bridges.length,.d (slD TreeLink.enc a1.Links),.d (slD encInt a1.Down),.d (slD TreeSlot.enc a1.AtA),.d (slD TreeSlot.enc a1.AtB),.osl 9002 0 a1.Radio.length]] [(9000,.box 97 [.d (slD encByte a0.b),.d (.int .i64 a0.p)]),(9001,.arr 43 6 a1.Bridges.length (rows TreeBridge.enc a1.Bridges)),(9002,.arr 76 5 a1.Radio.length (rows TreeWord.enc a1.Radio))] (.agg [.d (.int .i64 r.1.Root),.d (.int .i64 r.1.Cost),.d (.int .i64 r.1.Age)]) [(9000,.box 97 [.d (slD encByte a0.b),.d (.int .i64 r.2.1.p)]),(9001,.arr 43 6 a1.Bridges.length (rows TreeBridge.enc r.2.2.Bridges)),(9002,.arr 76 5 a1.Radio.length (rows TreeWord.enc r.2.2.Radio))]:=by
  refine effC_x tOk (fn:=Try.f118) (c:=codeOf Try.f118) rfl rfl ?_;unfold spec_l85Vector_r10_15_m at h;(conv=>whnf);obtain ⟨x1,hx1,h⟩:=bd_some h;obtain ⟨g2,h⟩:=gd_some h;refine draw_t tOk [.e 6 [(9000,.box 97 [.d (slD encByte a0.b),.d (.int .i64 a0.p)])] (.d (.int .i64 x1.1)) [] [(9000,.box 97 [.d (slD encByte a0.b),.d (.int .i64 x1.2.p)])]] 11 [] [0,1,0,0,8,24,60,127,255,511,1023] [] [9000] ?_;(conv=>whnf);refine And.intro (eD [(9000,9000)] 0 (spec_l81Rd_pick_c hx1)) ?_;(conv=>whnf);refine And.intro g2 ?_;clear g2;(conv=>whnf);refine And.intro (by kernel_rfl) ?_;(conv=>whnf);obtain ⟨x3,hx3,h⟩:=bd_some h;refine seq_join tOk (fun s4=>⟨0,33,[(0,.ref 9000 0 0),(4,.ref 4 0 0),(5,.d (.int .i64 s4.2))],[],[(4,.box 39 [.d (.int .i64 0),.d (.int .i64 0),.d (.int .i64 0)]),(9000,.box 97 [.d (slD encByte a0.b),.d (.int .i64 s4.1)]),(9001,.arr 43 6 a1.Bridges.length (rows TreeBridge.enc a1.Bridges)),(9002,.arr 76 5 a1.Radio.length (rows TreeWord.enc a1.Radio))],[⟨[(0,.ref 9000 0 0),(1,.osl 9001 0 a1.Bridges.length),(2,.osl 9002 0 a1.Radio.length)],[]⟩]⟩) (fun s4=>x3 = s4) ?_ ?_
  · (conv=>whnf);obtain ⟨x6,hx6,hx3⟩:=bd_some hx3;refine cE [(9000,9000)] 0 (spec_l81Rd_pick_c hx6) ?_;(conv=>whnf);refine andI hx3 (fun _ hx3=>?_) (fun _ hx3=>?_)
    · (conv=>whnf);refine bldS (enc:=encInt) ([1,2,3,1000]:List Int) ?_;(conv=>whnf);obtain ⟨x7,hx7,hx3⟩:=bd_some hx3;refine cE [(9000,9000)] 0 (spec_l81Rd_pick_c hx7) ?_;(conv=>whnf);refine gdI hx3 (fun hx3=>?_);(conv=>whnf);obtain rfl:=Option.some.inj hx3;exact ⟨_,rfl,leX []⟩
    · (conv=>whnf);obtain rfl:=Option.some.inj hx3;exact ⟨_,rfl,leX []⟩
  · rintro _ rfl;(conv=>whnf);obtain ⟨x9,hx9,h⟩:=bd_some h;obtain ⟨g10,h⟩:=gd_some h;obtain ⟨x11,hx11,h⟩:=bd_some h;refine draw_t tOk [.e 3 [(9000,.box 97 [.d (slD encByte a0.b),.d (.int .i64 x3.1)])] (.d (.int .i64 x9.1)) [] [(9000,.box 97 [.d (slD encByte a0.b),.d (.int .i64 x9.2.p)])],.e 7 [(9000,.box 97 [.d (slD encByte a0.b),.d (.int .i64 x9.2.p)])] (.d (.int .i64 x11.1)) [] [(9000,.box 97 [.d (slD encByte a0.b),.d (.int .i64 x11.2.p)])]] 9 [] [0,0,0,4,14,30,0,76,255] [511] [9000] ?_;(conv=>whnf);refine bldS (enc:=encInt) ([0,1,2,9,100,1000]:List Int) ?_;(conv=>whnf);refine And.intro (eD [(9000,9000)] 0 (spec_l81Rd_pick_c hx9)) ?_;(conv=>whnf);refine And.intro g10 ?_;clear g10;(conv=>whnf);refine And.intro (eD [(9000,9000)] 0 (spec_l81Rd_pick_c hx11)) ?_;(conv=>whnf);refine And.intro (by kernel_rfl) ?_;(conv=>whnf);obtain rfl:=Option.some.inj h;exact lfE []
noncomputable def spec_l85Vector_r15_m (a0:l81Rd) (a1:TreeWorld):Option (TreeVector × l81Rd × TreeWorld) :=
 bd (spec_l81Rd_pick_m a0 ((a1.Bridges.length:Nat):Int)) fun x1 =>
 gd ((0:Int)≤x1.1∧x1.1<((a1.Bridges.length:Nat):Int)) <|
 bd (α:=Int × Int) (bd (spec_l81Rd_pick_m (⟨a0.b,x1.2.p⟩:l81Rd) 2) fun x6 =>
(if (x6.1 == 0) = true then
 bd (spec_l81Rd_pick_m (⟨a0.b,x6.2.p⟩:l81Rd) 4) fun x7 =>
 gd ((0:Int)≤x7.1∧x7.1<((([1,2,3,1000]:List Int).length:Nat):Int)) <|
 some (x7.2.p,(([1,2,3,1000]:List Int).getD x7.1.toNat default))
else
 some (x6.2.p,(a1.Bridges.getD x1.1.toNat default).Id))) fun x3 =>
 bd (spec_l81Rd_pick_m (⟨a0.b,x3.1⟩:l81Rd) 6) fun x9 =>
 gd ((0:Int)≤x9.1∧x9.1<((([0,1,2,9,100,1000]:List Int).length:Nat):Int)) <|
 bd (spec_l81Rd_pick_m (⟨a0.b,x9.2.p⟩:l81Rd) 11) fun x11 =>
 some ((⟨x3.2,(([0,1,2,9,100,1000]:List Int).getD x9.1.toNat default),x11.1⟩:TreeVector),(⟨a0.b,x11.2.p⟩:l81Rd),a1)
theorem spec_l85Vector_r15_c {a0:l81Rd} {a1:TreeWorld} {r:TreeVector × l81Rd × TreeWorld} (h:spec_l85Vector_r15_m a0 a1 = some r):EffC Try.prog 118 [.ref 9000 0 0,.agg [.d (slD TreeBridge.enc a1.Bridges),.d (slD TreeLink.enc a1.Links),.d (slD encInt a1.Down),.d (slD TreeSlot.enc a1.AtA),.d (slD TreeSlot.enc a1.AtB),.osl 9001 0 a1.Radio.length]] [(9000,.box 97 [.d (slD encByte a0.b),.d (.int .i64 a0.p)]),(9001,.arr 76 5 a1.Radio.length (rows TreeWord.enc a1.Radio))] (.agg [.d (.int .i64 r.1.Root),.d (.int .i64 r.1.Cost),.d (.int .i64 r.1.Age)]) [(9000,.box 97 [.d (slD encByte a0.b),.d (.int .i64 r.2.1.p)]),(9001,.arr 76 5 a1.Radio.length (rows TreeWord.enc r.2.2.Radio))]:=by
  refine effC_x tOk (fn:=Try.f118) (c:=codeOf Try.f118) rfl rfl ?_;unfold spec_l85Vector_r15_m at h;(conv=>whnf);obtain ⟨x1,hx1,h⟩:=bd_some h;obtain ⟨g2,h⟩:=gd_some h;refine draw_t tOk [.e 6 [(9000,.box 97 [.d (slD encByte a0.b),.d (.int .i64 a0.p)])] (.d (.int .i64 x1.1)) [] [(9000,.box 97 [.d (slD encByte a0.b),.d (.int .i64 x1.2.p)])]] 11 [] [0,1,0,0,8,24,60,127,255,511,1023] [] [9000] ?_;(conv=>whnf);refine And.intro (eD [(9000,9000)] 0 (spec_l81Rd_pick_c hx1)) ?_;(conv=>whnf);refine And.intro g2 ?_;clear g2;(conv=>whnf);refine And.intro (by kernel_rfl) ?_;(conv=>whnf);obtain ⟨x3,hx3,h⟩:=bd_some h;refine seq_join tOk (fun s4=>⟨0,33,[(0,.ref 9000 0 0),(4,.ref 4 0 0),(5,.d (.int .i64 s4.2))],[],[(4,.box 39 [.d (.int .i64 0),.d (.int .i64 0),.d (.int .i64 0)]),(9000,.box 97 [.d (slD encByte a0.b),.d (.int .i64 s4.1)]),(9001,.arr 76 5 a1.Radio.length (rows TreeWord.enc a1.Radio))],[⟨[(0,.ref 9000 0 0),(1,.osl 9001 0 a1.Radio.length)],[]⟩]⟩) (fun s4=>x3 = s4) ?_ ?_
  · (conv=>whnf);obtain ⟨x6,hx6,hx3⟩:=bd_some hx3;refine cE [(9000,9000)] 0 (spec_l81Rd_pick_c hx6) ?_;(conv=>whnf);refine andI hx3 (fun _ hx3=>?_) (fun _ hx3=>?_)
    · (conv=>whnf);refine bldS (enc:=encInt) ([1,2,3,1000]:List Int) ?_;(conv=>whnf);obtain ⟨x7,hx7,hx3⟩:=bd_some hx3;refine cE [(9000,9000)] 0 (spec_l81Rd_pick_c hx7) ?_;(conv=>whnf);refine gdI hx3 (fun hx3=>?_);(conv=>whnf);obtain rfl:=Option.some.inj hx3;exact ⟨_,rfl,leX []⟩
    · (conv=>whnf);obtain rfl:=Option.some.inj hx3;exact ⟨_,rfl,leX []⟩
  · rintro _ rfl;(conv=>whnf);obtain ⟨x9,hx9,h⟩:=bd_some h;obtain ⟨g10,h⟩:=gd_some h;obtain ⟨x11,hx11,h⟩:=bd_some h;refine draw_t tOk [.e 3 [(9000,.box 97 [.d (slD encByte a0.b),.d (.int .i64 x3.1)])] (.d (.int .i64 x9.1)) [] [(9000,.box 97 [.d (slD encByte a0.b),.d (.int .i64 x9.2.p)])],.e 7 [(9000,.box 97 [.d (slD encByte a0.b),.d (.int .i64 x9.2.p)])] (.d (.int .i64 x11.1)) [] [(9000,.box 97 [.d (slD encByte a0.b),.d (.int .i64 x11.2.p)])]] 9 [] [0,0,0,4,14,30,0,76,255] [511] [9000] ?_;(conv=>whnf);refine bldS (enc:=encInt) ([0,1,2,9,100,1000]:List Int) ?_;(conv=>whnf);refine And.intro (eD [(9000,9000)] 0 (spec_l81Rd_pick_c hx9)) ?_;(conv=>whnf);refine And.intro g10 ?_;clear g10;(conv=>whnf);refine And.intro (eD [(9000,9000)] 0 (spec_l81Rd_pick_c hx11)) ?_;(conv=>whnf);refine And.intro (by kernel_rfl) ?_;(conv=>whnf);obtain rfl:=Option.some.inj h;exact lfE []
noncomputable def spec_l85Haunted_m (a0:l81Rd) (a1:TreeWorld):Option (TreeWorld × l81Rd) :=
 bd (spec_l82Copy_o00_03_05_m a1) fun x1 =>
 bd (lp (σ:=List TreeBridge × List TreeSlot × List TreeSlot × List TreeWord × Int × Int) (β:=((List TreeBridge) × Nat × (List TreeSlot) × Nat × (List TreeSlot) × Nat × (List TreeWord) × Nat × Int)) (fun s2 =>
(if (decide (s2.2.2.2.2.2<((x1.Links.length:Nat):Int))) = true then
 bd (spec_l82Has_m x1.Down s2.2.2.2.2.2) fun x6 =>
(if x6 = true then
 some (.inl (s2.1,s2.2.1,s2.2.2.1,s2.2.2.2.1,s2.2.2.2.2.1,IntKind.i64.wrap (s2.2.2.2.2.2+1)))
else
 bd (α:=List TreeBridge × List TreeSlot × List TreeSlot × List TreeWord × Int) (gd ((0:Int)≤s2.2.2.2.2.2∧s2.2.2.2.2.2<((x1.Links.length:Nat):Int)) <|
 gd ((0:Int)≤(x1.Links.getD s2.2.2.2.2.2.toNat default).A∧(x1.Links.getD s2.2.2.2.2.2.toNat default).A<((s2.1.length:Nat):Int)) <|
 bd (gcallE ((s2.1.getD (((x1.Links.getD s2.2.2.2.2.2.toNat default).A).toNat) default).Up = true) (spec_l81Rd_pick_m (⟨a0.b,s2.2.2.2.2.1⟩:l81Rd) 2) ((⟨a0.b,s2.2.2.2.2.1⟩:l81Rd))) fun x12 =>
(if ((s2.1.getD (((x1.Links.getD s2.2.2.2.2.2.toNat default).A).toNat) default).Up && (x12.1 == 0)) = true then
 bd (spec_l85Vector_r10_13_14_15_m (⟨a0.b,x12.2.p⟩:l81Rd) ({ x1 with Bridges:=s2.1,AtA:=s2.2.1,AtB:=s2.2.2.1,Radio:=s2.2.2.2.1 })) fun x13 =>
 gd (x13.2.2.Bridges.length = s2.1.length) <|
 gd (x13.2.2.AtA.length = s2.2.1.length) <|
 gd (x13.2.2.AtB.length = s2.2.2.1.length) <|
 gd (x13.2.2.Radio.length = s2.2.2.2.1.length) <|
 bd (spec_l81Rd_pick_m (⟨a0.b,x13.2.1.p⟩:l81Rd) 3) fun x18 =>
 gd ((0:Int)≤s2.2.2.2.2.2∧s2.2.2.2.2.2<((s2.2.1.length:Nat):Int)) <|
 some (x13.2.2.Bridges,x13.2.2.AtA.set s2.2.2.2.2.2.toNat (⟨x13.1,IntKind.i64.wrap (1+x18.1)⟩:TreeSlot),x13.2.2.AtB,x13.2.2.Radio,x18.2.p)
else
 some (s2.1,s2.2.1,s2.2.2.1,s2.2.2.2.1,x12.2.p))) fun x7 =>
 gd ((0:Int)≤s2.2.2.2.2.2∧s2.2.2.2.2.2<((x1.Links.length:Nat):Int)) <|
 gd ((0:Int)≤(x1.Links.getD s2.2.2.2.2.2.toNat default).B∧(x1.Links.getD s2.2.2.2.2.2.toNat default).B<((x7.1.length:Nat):Int)) <|
 bd (gcallE ((x7.1.getD (((x1.Links.getD s2.2.2.2.2.2.toNat default).B).toNat) default).Up = true) (spec_l81Rd_pick_m (⟨a0.b,x7.2.2.2.2⟩:l81Rd) 2) ((⟨a0.b,x7.2.2.2.2⟩:l81Rd))) fun x22 =>
(if ((x7.1.getD (((x1.Links.getD s2.2.2.2.2.2.toNat default).B).toNat) default).Up && (x22.1 == 0)) = true then
 bd (spec_l85Vector_r10_13_14_15_m (⟨a0.b,x22.2.p⟩:l81Rd) ({ x1 with Bridges:=x7.1,AtA:=x7.2.1,AtB:=x7.2.2.1,Radio:=x7.2.2.2.1 })) fun x23 =>
 gd (x23.2.2.Bridges.length = x7.1.length) <|
 gd (x23.2.2.AtA.length = x7.2.1.length) <|
 gd (x23.2.2.AtB.length = x7.2.2.1.length) <|
 gd (x23.2.2.Radio.length = x7.2.2.2.1.length) <|
 bd (spec_l81Rd_pick_m (⟨a0.b,x23.2.1.p⟩:l81Rd) 3) fun x28 =>
 gd ((0:Int)≤s2.2.2.2.2.2∧s2.2.2.2.2.2<((x7.2.2.1.length:Nat):Int)) <|
 some (.inl (x23.2.2.Bridges,x23.2.2.AtA,x23.2.2.AtB.set s2.2.2.2.2.2.toNat (⟨x23.1,IntKind.i64.wrap (1+x28.1)⟩:TreeSlot),x23.2.2.Radio,x28.2.p,IntKind.i64.wrap (s2.2.2.2.2.2+1)))
else
 some (.inl (x7.1,x7.2.1,x7.2.2.1,x7.2.2.2.1,x22.2.p,IntKind.i64.wrap (s2.2.2.2.2.2+1)))))
else
 some (.inr (s2.1,s2.1.length,s2.2.1,s2.2.1.length,s2.2.2.1,s2.2.2.1.length,s2.2.2.2.1,s2.2.2.2.1.length,s2.2.2.2.2.1)))) (x1.Bridges,x1.AtA,x1.AtB,x1.Radio,a0.p,0)) fun x5 =>
 bd (lp (σ:=List TreeBridge × List TreeWord × Int × Int) (β:=((List TreeBridge) × Nat × (List TreeWord) × Nat × Int)) (fun s31 =>
(if (decide (s31.2.2.2<((s31.1.length:Nat):Int))) = true then
 gd ((0:Int)≤s31.2.2.2∧s31.2.2.2<((s31.1.length:Nat):Int)) <|
 bd (gcallE ((s31.1.getD s31.2.2.2.toNat default).Up = true) (spec_l81Rd_pick_m (⟨a0.b,s31.2.2.1⟩:l81Rd) 2) ((⟨a0.b,s31.2.2.1⟩:l81Rd))) fun x36 =>
(if ((s31.1.getD s31.2.2.2.toNat default).Up && (x36.1 == 0)) = true then
 bd (spec_l85Vector_r10_15_m (⟨a0.b,x36.2.p⟩:l81Rd) ({ x1 with Bridges:=s31.1,AtA:=x5.2.2.1,AtB:=x5.2.2.2.2.1,Radio:=s31.2.1 })) fun x37 =>
 gd (x37.2.2.Bridges.length = s31.1.length) <|
 gd (x37.2.2.Radio.length = s31.2.1.length) <|
 bd (spec_l81Rd_pick_m (⟨a0.b,x37.2.1.p⟩:l81Rd) (IntKind.i64.wrap (((x1.Links.length:Nat):Int)+1))) fun x40 =>
 gd ((0:Int)≤s31.2.2.2∧s31.2.2.2<((s31.1.length:Nat):Int)) <|
 bd (some (x37.2.2.Bridges.set s31.2.2.2.toNat ({ (x37.2.2.Bridges.getD s31.2.2.2.toNat default) with Mind:=(⟨x37.1,IntKind.i64.wrap (x40.1 - 1)⟩:TreeMind) }))) fun x42 =>
 some (.inl (x42,x37.2.2.Radio,x40.2.p,IntKind.i64.wrap (s31.2.2.2+1)))
else
 some (.inl (s31.1,s31.2.1,x36.2.p,IntKind.i64.wrap (s31.2.2.2+1))))
else
 some (.inr (s31.1,s31.1.length,s31.2.1,s31.2.1.length,s31.2.2.1)))) (x5.1,x5.2.2.2.2.2.2.1,x5.2.2.2.2.2.2.2.2,0)) fun x34 =>
 bd (spec_l81Rd_pick_m (⟨a0.b,x34.2.2.2.2⟩:l81Rd) 4) fun x44 =>
 bd (lp (σ:=List TreeWord × Int × Int) (β:=((List TreeWord) × Nat × Int)) (fun s45 =>
(if (((decide (s45.2.2 > 0)) && (decide (((x1.Links.length:Nat):Int) > 0))) && (decide (((s45.1.length:Nat):Int)<12))) = true then
 bd (spec_l81Rd_pick_m (⟨a0.b,s45.2.1⟩:l81Rd) ((x1.Links.length:Nat):Int)) fun x49 =>
 bd (spec_l81Rd_pick_m (⟨a0.b,x49.2.p⟩:l81Rd) 2) fun x50 =>
 bd (spec_l85Vector_r15_m (⟨a0.b,x50.2.p⟩:l81Rd) ({ x1 with Bridges:=x34.1,AtA:=x5.2.2.1,AtB:=x5.2.2.2.2.1,Radio:=s45.1 })) fun x51 =>
 gd (x51.2.2.Radio.length = s45.1.length) <|
 gd (((s45.1.length)+(([(⟨x49.1,x50.1,x51.1⟩:TreeWord)]:List TreeWord).length)) * (40+1)≤70368744177664) <|
 some (.inl ((x51.2.2.Radio ++ ([(⟨x49.1,x50.1,x51.1⟩:TreeWord)]:List TreeWord)),x51.2.1.p,IntKind.i64.wrap (s45.2.2 - 1)))
else
 some (.inr (s45.1,s45.1.length,s45.2.1)))) (x34.2.2.1,x44.2.p,x44.1)) fun x48 =>
 some ({ x1 with Bridges:=x34.1,AtA:=x5.2.2.1,AtB:=x5.2.2.2.2.1,Radio:=x48.1 },(⟨a0.b,x48.2.2⟩:l81Rd))
theorem spec_l85Haunted_c {a0:l81Rd} {a1:TreeWorld} {r:TreeWorld × l81Rd} (h:spec_l85Haunted_m a0 a1 = some r):EffC Try.prog 114 [.ref 9000 0 0,.agg [.d (slD TreeBridge.enc a1.Bridges),.d (slD TreeLink.enc a1.Links),.d (slD encInt a1.Down),.d (slD TreeSlot.enc a1.AtA),.d (slD TreeSlot.enc a1.AtB),.d (slD TreeWord.enc a1.Radio)]] [(9000,.box 97 [.d (slD encByte a0.b),.d (.int .i64 a0.p)])] (.agg [.d (slD TreeBridge.enc r.1.Bridges),.d (slD TreeLink.enc r.1.Links),.d (slD encInt r.1.Down),.d (slD TreeSlot.enc r.1.AtA),.d (slD TreeSlot.enc r.1.AtB),.osl 5001 0 r.1.Radio.length]) [(9000,.box 97 [.d (slD encByte a0.b),.d (.int .i64 r.2.p)]),(5001,.arr 76 5 r.1.Radio.length (rows TreeWord.enc r.1.Radio))]:=by
  refine effC_x tOk (fn:=Try.f114) (c:=codeOf Try.f114) rfl rfl ?_;unfold spec_l85Haunted_m at h;(conv=>whnf);obtain ⟨x1,hx1,h⟩:=bd_some h;refine cE [] 1000 (spec_l82Copy_o00_03_05_c hx1) ?_;(conv=>whnf);refine seq_in tOk ?_;(conv=>whnf);obtain ⟨x5,hx5,h⟩:=bd_some h;refine loop_m tOk hx5 (fun s2=>⟨0,144,[(0,.ref 9000 0 0),(3,.ref 3 0 0),(4,.ref 4 0 0),(5,.d (.int .i64 s2.2.2.2.2.2))],[],[(6001,.arr 43 6 s2.1.length (rows TreeBridge.enc s2.1)),(6004,.arr 107 4 s2.2.1.length (rows TreeSlot.enc s2.2.1)),(6005,.arr 107 4 s2.2.2.1.length (rows TreeSlot.enc s2.2.2.1)),(6006,.arr 76 5 s2.2.2.2.1.length (rows TreeWord.enc s2.2.2.2.1)),(4,.box 29 [.d (.nil),.d (.nil),.d (.nil),.d (.nil),.d (.nil),.d (.nil)]),(3,.box 29 [.osl 6001 0 s2.1.length,.d (slD TreeLink.enc x1.Links),.d (slD encInt x1.Down),.osl 6004 0 s2.2.1.length,.osl 6005 0 s2.2.2.1.length,.osl 6006 0 s2.2.2.2.1.length]),(9000,.box 97 [.d (slD encByte a0.b),.d (.int .i64 s2.2.2.2.2.1)])],[⟨[(0,.ref 9000 0 0)],[]⟩]⟩) ?_ ?_
  · exact leX [.f [6002,6003]]
  · clear hx5;intro s2 y3 g4 hy3;(conv=>whnf);refine seq_in tOk ?_;(conv=>whnf);refine andI g4 (fun _ g4=>?_) (fun _ g4=>?_)
    · (conv=>whnf);refine seq_in tOk ?_;(conv=>whnf);refine seq_in tOk ?_;(conv=>whnf);obtain ⟨x6,hx6,g4⟩:=bd_some g4;refine cC 0 (spec_l82Has_c hx6) ?_;clear hx6;(conv=>whnf);refine andI g4 (fun _ g4=>?_) (fun _ g4=>?_)
      · (conv=>whnf);obtain rfl:=Option.some.inj g4;exact ⟨_,rfl,leX []⟩
      · (conv=>whnf);obtain ⟨x7,hx7,g4⟩:=bd_some g4;refine seq_join tOk (fun s8=>⟨0,144,[(0,.ref 9000 0 0),(3,.ref 3 0 0),(4,.ref 4 0 0),(5,.d (.int .i64 s2.2.2.2.2.2))],[],[(6001,.arr 43 6 s8.1.length (rows TreeBridge.enc s8.1)),(6004,.arr 107 4 s8.2.1.length (rows TreeSlot.enc s8.2.1)),(6005,.arr 107 4 s8.2.2.1.length (rows TreeSlot.enc s8.2.2.1)),(6006,.arr 76 5 s8.2.2.2.1.length (rows TreeWord.enc s8.2.2.2.1)),(4,.box 29 [.d (.nil),.d (.nil),.d (.nil),.d (.nil),.d (.nil),.d (.nil)]),(3,.box 29 [.osl 6001 0 s8.1.length,.d (slD TreeLink.enc x1.Links),.d (slD encInt x1.Down),.osl 6004 0 s8.2.1.length,.osl 6005 0 s8.2.2.1.length,.osl 6006 0 s8.2.2.2.1.length]),(9000,.box 97 [.d (slD encByte a0.b),.d (.int .i64 s8.2.2.2.2)])],[⟨[(0,.ref 9000 0 0)],[]⟩]⟩) (fun s8=>x7 = s8) ?_ ?_
        · (conv=>whnf);obtain ⟨g10,hx7⟩:=gd_some hx7;obtain ⟨g11,hx7⟩:=gd_some hx7;obtain ⟨x12,hx12,hx7⟩:=bd_some hx7;refine draw_t tOk [.e 13 [(9000,.box 97 [.d (slD encByte a0.b),.d (.int .i64 s2.2.2.2.2.1)])] (.d (.int .i64 x12.1)) [] [(9000,.box 97 [.d (slD encByte a0.b),.d (.int .i64 x12.2.p)])]] 16 [] [0,1,0,4,0,28,60,124,255,511,1023,2047,4095,8191,16383,32767] [] [9000] ?_;(conv=>whnf);refine And.intro g10 ?_;clear g10;(conv=>whnf);refine And.intro g11 ?_;clear g11;(conv=>whnf);refine And.intro (And.intro ⟨⟨Try.f43,rfl,rfl,rfl⟩⟩ (And.intro (by intro c0; exact eD [(9000,9000)] 0 (spec_l81Rd_pick_c (gcallE_some hx12 c0))) (by intro c0; have e:=gcallE_none hx12 (by first | (rw [c0]; decide) | exact fun e=>Bool.noConfusion (e.symm.trans c0)); subst e; exact inA))) ?_;(conv=>whnf);refine And.intro (by kernel_rfl) ?_;(conv=>whnf);refine andI hx7 (fun _ hx7=>?_) (fun _ hx7=>?_)
          · (conv=>whnf);obtain ⟨x13,hx13,hx7⟩:=bd_some hx7;obtain ⟨g14,hx7⟩:=gd_some hx7;obtain ⟨g15,hx7⟩:=gd_some hx7;obtain ⟨g16,hx7⟩:=gd_some hx7;obtain ⟨g17,hx7⟩:=gd_some hx7;obtain ⟨x18,hx18,hx7⟩:=bd_some hx7;obtain ⟨g19,hx7⟩:=gd_some hx7;refine draw_t tOk [.e 5 [(9000,.box 97 [.d (slD encByte a0.b),.d (.int .i64 x12.2.p)]),(6001,.arr 43 6 s2.1.length (rows TreeBridge.enc s2.1)),(6004,.arr 107 4 s2.2.1.length (rows TreeSlot.enc s2.2.1)),(6005,.arr 107 4 s2.2.2.1.length (rows TreeSlot.enc s2.2.2.1)),(6006,.arr 76 5 s2.2.2.2.1.length (rows TreeWord.enc s2.2.2.2.1))] (.agg [.d (.int .i64 x13.1.Root),.d (.int .i64 x13.1.Cost),.d (.int .i64 x13.1.Age)]) [] [(9000,.box 97 [.d (slD encByte a0.b),.d (.int .i64 x13.2.1.p)]),(6001,.arr 43 6 s2.1.length (rows TreeBridge.enc x13.2.2.Bridges)),(6004,.arr 107 4 s2.2.1.length (rows TreeSlot.enc x13.2.2.AtA)),(6005,.arr 107 4 s2.2.2.1.length (rows TreeSlot.enc x13.2.2.AtB)),(6006,.arr 76 5 s2.2.2.2.1.length (rows TreeWord.enc x13.2.2.Radio))],.e 7 [(9000,.box 97 [.d (slD encByte a0.b),.d (.int .i64 x13.2.1.p)])] (.d (.int .i64 x18.1)) [] [(9000,.box 97 [.d (slD encByte a0.b),.d (.int .i64 x18.2.p)])],.l 10 [(6004,.arr 107 4 s2.2.1.length (rows TreeSlot.enc x13.2.2.AtA))] (.ref 6004 s2.2.2.2.2.2.toNat 0)] 11 [] [0,1,0,0,0,24,0,120,248,504,1023] [2047] [9000,6001,6004,6005,6006] ?_;(conv=>whnf);refine And.intro (eD [(9000,9000),(9001,6001),(9002,6004),(9003,6005),(9004,6006)] 0 (spec_l85Vector_r10_13_14_15_c hx13)) ?_;(conv=>whnf);refine And.intro (eD [(9000,9000)] 0 (spec_l81Rd_pick_c hx18)) ?_;(conv=>whnf);refine And.intro (by (conv=>whnf); exact ⟨g19,rfl,rfl⟩) ?_;(conv=>whnf);refine And.intro (by kernel_rfl) ?_;(conv=>whnf);refine ⟨rows TreeSlot.enc (x13.2.2.AtA.set s2.2.2.2.2.2.toNat (⟨x13.1,IntKind.i64.wrap (1+x18.1)⟩:TreeSlot)),store_rows' lenA rfl,?_⟩;(conv=>whnf);obtain rfl:=Option.some.inj hx7;exact ⟨_,rfl,leX []⟩
          · (conv=>whnf);obtain rfl:=Option.some.inj hx7;exact ⟨_,rfl,leX []⟩
        · rintro _ rfl;(conv=>whnf);obtain ⟨g20,g4⟩:=gd_some g4;obtain ⟨g21,g4⟩:=gd_some g4;obtain ⟨x22,hx22,g4⟩:=bd_some g4;refine draw_t tOk [.e 13 [(9000,.box 97 [.d (slD encByte a0.b),.d (.int .i64 x7.2.2.2.2)])] (.d (.int .i64 x22.1)) [] [(9000,.box 97 [.d (slD encByte a0.b),.d (.int .i64 x22.2.p)])]] 16 [] [0,1,0,4,0,28,60,124,255,511,1023,2047,4095,8191,16383,32767] [] [9000] ?_;(conv=>whnf);refine And.intro g20 ?_;clear g20;(conv=>whnf);refine And.intro g21 ?_;clear g21;(conv=>whnf);refine And.intro (And.intro ⟨⟨Try.f43,rfl,rfl,rfl⟩⟩ (And.intro (by intro c0; exact eD [(9000,9000)] 0 (spec_l81Rd_pick_c (gcallE_some hx22 c0))) (by intro c0; have e:=gcallE_none hx22 (by first | (rw [c0]; decide) | exact fun e=>Bool.noConfusion (e.symm.trans c0)); subst e; exact inA))) ?_;(conv=>whnf);refine And.intro (by kernel_rfl) ?_;(conv=>whnf);refine andI g4 (fun _ g4=>?_) (fun _ g4=>?_)
          · (conv=>whnf);obtain ⟨x23,hx23,g4⟩:=bd_some g4;obtain ⟨g24,g4⟩:=gd_some g4;obtain ⟨g25,g4⟩:=gd_some g4;obtain ⟨g26,g4⟩:=gd_some g4;obtain ⟨g27,g4⟩:=gd_some g4;obtain ⟨x28,hx28,g4⟩:=bd_some g4;obtain ⟨g29,g4⟩:=gd_some g4;refine draw_t tOk [.e 5 [(9000,.box 97 [.d (slD encByte a0.b),.d (.int .i64 x22.2.p)]),(6001,.arr 43 6 x7.1.length (rows TreeBridge.enc x7.1)),(6004,.arr 107 4 x7.2.1.length (rows TreeSlot.enc x7.2.1)),(6005,.arr 107 4 x7.2.2.1.length (rows TreeSlot.enc x7.2.2.1)),(6006,.arr 76 5 x7.2.2.2.1.length (rows TreeWord.enc x7.2.2.2.1))] (.agg [.d (.int .i64 x23.1.Root),.d (.int .i64 x23.1.Cost),.d (.int .i64 x23.1.Age)]) [] [(9000,.box 97 [.d (slD encByte a0.b),.d (.int .i64 x23.2.1.p)]),(6001,.arr 43 6 x7.1.length (rows TreeBridge.enc x23.2.2.Bridges)),(6004,.arr 107 4 x7.2.1.length (rows TreeSlot.enc x23.2.2.AtA)),(6005,.arr 107 4 x7.2.2.1.length (rows TreeSlot.enc x23.2.2.AtB)),(6006,.arr 76 5 x7.2.2.2.1.length (rows TreeWord.enc x23.2.2.Radio))],.e 7 [(9000,.box 97 [.d (slD encByte a0.b),.d (.int .i64 x23.2.1.p)])] (.d (.int .i64 x28.1)) [] [(9000,.box 97 [.d (slD encByte a0.b),.d (.int .i64 x28.2.p)])],.l 10 [(6005,.arr 107 4 x7.2.2.1.length (rows TreeSlot.enc x23.2.2.AtB))] (.ref 6005 s2.2.2.2.2.2.toNat 0)] 11 [] [0,1,0,0,0,24,0,120,248,504,1023] [2047] [9000,6001,6004,6005,6006] ?_;(conv=>whnf);refine And.intro (eD [(9000,9000),(9001,6001),(9002,6004),(9003,6005),(9004,6006)] 0 (spec_l85Vector_r10_13_14_15_c hx23)) ?_;(conv=>whnf);refine And.intro (eD [(9000,9000)] 0 (spec_l81Rd_pick_c hx28)) ?_;(conv=>whnf);refine And.intro (by (conv=>whnf); exact ⟨g29,rfl,rfl⟩) ?_;(conv=>whnf);refine And.intro (by kernel_rfl) ?_;(conv=>whnf);refine ⟨rows TreeSlot.enc (x23.2.2.AtB.set s2.2.2.2.2.2.toNat (⟨x23.1,IntKind.i64.wrap (1+x28.1)⟩:TreeSlot)),store_rows' lenA rfl,?_⟩;(conv=>whnf);obtain rfl:=Option.some.inj g4;exact ⟨_,rfl,leX []⟩
          · (conv=>whnf);obtain rfl:=Option.some.inj g4;exact ⟨_,rfl,leX []⟩
    · (conv=>whnf);obtain rfl:=Option.some.inj g4;obtain rfl:=hy3 _ rfl;refine seq_in tOk ?_;(conv=>whnf);obtain ⟨x34,hx34,h⟩:=bd_some h;refine loop_m tOk hx34 (fun s31=>⟨0,144,[(0,.ref 9000 0 0),(3,.ref 3 0 0),(4,.ref 4 0 0),(6,.d (.int .i64 s31.2.2.2))],[],[(6001,.arr 43 6 s31.1.length (rows TreeBridge.enc s31.1)),(6006,.arr 76 5 s31.2.1.length (rows TreeWord.enc s31.2.1)),(4,.box 29 [.d (.nil),.d (.nil),.d (.nil),.d (.nil),.d (.nil),.d (.nil)]),(3,.box 29 [.osl 6001 0 s31.1.length,.d (slD TreeLink.enc x1.Links),.d (slD encInt x1.Down),.d (slD TreeSlot.enc (s2.1,s2.1.length,s2.2.1,s2.2.1.length,s2.2.2.1,s2.2.2.1.length,s2.2.2.2.1,s2.2.2.2.1.length,s2.2.2.2.2.1).2.2.1),.d (slD TreeSlot.enc (s2.1,s2.1.length,s2.2.1,s2.2.1.length,s2.2.2.1,s2.2.2.1.length,s2.2.2.2.1,s2.2.2.2.1.length,s2.2.2.2.2.1).2.2.2.2.1),.osl 6006 0 s31.2.1.length]),(9000,.box 97 [.d (slD encByte a0.b),.d (.int .i64 s31.2.2.1)])],[⟨[(0,.ref 9000 0 0)],[]⟩]⟩) ?_ ?_
      · exact leX [.f [6004,6005]]
      · clear hx34;intro s31 y32 g33 hy32;(conv=>whnf);refine seq_in tOk ?_;(conv=>whnf);refine andI g33 (fun _ g33=>?_) (fun _ g33=>?_)
        · (conv=>whnf);refine seq_in tOk ?_;(conv=>whnf);refine gdI g33 (fun g33=>?_);(conv=>whnf);obtain ⟨x36,hx36,g33⟩:=bd_some g33;refine callG_e [(9000,9000)] 0 rfl rfl rfl (by intro c0; exact spec_l81Rd_pick_c (gcallE_some hx36 c0)) argA inA rfl rfl (by intro c0; have e:=gcallE_none hx36 (by first | (rw [c0]; decide) | exact fun e=>Bool.noConfusion (e.symm.trans c0)); subst e; exact inA) ?_;(conv=>whnf);refine andI g33 (fun _ g33=>?_) (fun _ g33=>?_)
          · (conv=>whnf);obtain ⟨x37,hx37,g33⟩:=bd_some g33;obtain ⟨g38,g33⟩:=gd_some g33;obtain ⟨g39,g33⟩:=gd_some g33;obtain ⟨x40,hx40,g33⟩:=bd_some g33;obtain ⟨g41,g33⟩:=gd_some g33;refine draw_t tOk [.e 5 [(9000,.box 97 [.d (slD encByte a0.b),.d (.int .i64 x36.2.p)]),(6001,.arr 43 6 s31.1.length (rows TreeBridge.enc s31.1)),(6006,.arr 76 5 s31.2.1.length (rows TreeWord.enc s31.2.1))] (.agg [.d (.int .i64 x37.1.Root),.d (.int .i64 x37.1.Cost),.d (.int .i64 x37.1.Age)]) [] [(9000,.box 97 [.d (slD encByte a0.b),.d (.int .i64 x37.2.1.p)]),(6001,.arr 43 6 s31.1.length (rows TreeBridge.enc x37.2.2.Bridges)),(6006,.arr 76 5 s31.2.1.length (rows TreeWord.enc x37.2.2.Radio))],.e 11 [(9000,.box 97 [.d (slD encByte a0.b),.d (.int .i64 x37.2.1.p)])] (.d (.int .i64 x40.1)) [] [(9000,.box 97 [.d (slD encByte a0.b),.d (.int .i64 x40.2.p)])],.l 14 [(6001,.arr 43 6 s31.1.length (rows TreeBridge.enc x37.2.2.Bridges))] (.ref 6001 s31.2.2.2.toNat 0)] 16 [] [0,1,0,0,0,24,0,0,128,384,896,2040,4088,8184,16383,32767] [65535] [9000,6001,6006] ?_;(conv=>whnf);refine And.intro (eD [(9000,9000),(9001,6001),(9002,6006)] 0 (spec_l85Vector_r10_15_c hx37)) ?_;(conv=>whnf);refine And.intro (eD [(9000,9000)] 0 (spec_l81Rd_pick_c hx40)) ?_;(conv=>whnf);refine And.intro (by (conv=>whnf); exact ⟨g41,rfl,rfl⟩) ?_;(conv=>whnf);refine And.intro (by kernel_rfl) ?_;(conv=>whnf);obtain ⟨x42,hx42,hlx42,g33⟩:=bd_set g33;refine setS (enc:=TreeBridge.enc) hx42 ?_;(conv=>whnf);obtain rfl:=Option.some.inj g33;exact ⟨_,rfl,leX []⟩
          · (conv=>whnf);obtain rfl:=Option.some.inj g33;exact ⟨_,rfl,leX []⟩
        · (conv=>whnf);obtain rfl:=Option.some.inj g33;obtain rfl:=hy32 _ rfl;refine seq_in tOk ?_;(conv=>whnf);obtain ⟨x44,hx44,h⟩:=bd_some h;refine cE [(9000,9000)] 0 (spec_l81Rd_pick_c hx44) ?_;(conv=>whnf);obtain ⟨x48,hx48,h⟩:=bd_some h;refine loop_m tOk hx48 (fun s45=>⟨0,144,[(0,.ref 9000 0 0),(3,.ref 3 0 0),(4,.ref 4 0 0),(7,.d (.int .i64 s45.2.2))],[],[(6006,.arr 76 5 s45.1.length (rows TreeWord.enc s45.1)),(4,.box 29 [.d (.nil),.d (.nil),.d (.nil),.d (.nil),.d (.nil),.d (.nil)]),(3,.box 29 [.d (slD TreeBridge.enc (s31.1,s31.1.length,s31.2.1,s31.2.1.length,s31.2.2.1).1),.d (slD TreeLink.enc x1.Links),.d (slD encInt x1.Down),.d (slD TreeSlot.enc (s2.1,s2.1.length,s2.2.1,s2.2.1.length,s2.2.2.1,s2.2.2.1.length,s2.2.2.2.1,s2.2.2.2.1.length,s2.2.2.2.2.1).2.2.1),.d (slD TreeSlot.enc (s2.1,s2.1.length,s2.2.1,s2.2.1.length,s2.2.2.1,s2.2.2.1.length,s2.2.2.2.1,s2.2.2.2.1.length,s2.2.2.2.2.1).2.2.2.2.1),.osl 6006 0 s45.1.length]),(9000,.box 97 [.d (slD encByte a0.b),.d (.int .i64 s45.2.1)])],[⟨[(0,.ref 9000 0 0)],[]⟩]⟩) ?_ ?_
          · exact leX [.f [6001]]
          · clear hx48;intro s45 y46 g47 hy46;(conv=>whnf);refine seq_in tOk ?_;(conv=>whnf);refine andI g47 (fun _ g47=>?_) (fun _ g47=>?_)
            · (conv=>whnf);refine seq_in tOk ?_;(conv=>whnf);obtain ⟨x49,hx49,g47⟩:=bd_some g47;obtain ⟨x50,hx50,g47⟩:=bd_some g47;obtain ⟨x51,hx51,g47⟩:=bd_some g47;obtain ⟨g52,g47⟩:=gd_some g47;refine draw_t tOk [.e 6 [(9000,.box 97 [.d (slD encByte a0.b),.d (.int .i64 s45.2.1)])] (.d (.int .i64 x49.1)) [] [(9000,.box 97 [.d (slD encByte a0.b),.d (.int .i64 x49.2.p)])],.e 8 [(9000,.box 97 [.d (slD encByte a0.b),.d (.int .i64 x49.2.p)])] (.d (.int .i64 x50.1)) [] [(9000,.box 97 [.d (slD encByte a0.b),.d (.int .i64 x50.2.p)])],.e 11 [(9000,.box 97 [.d (slD encByte a0.b),.d (.int .i64 x50.2.p)]),(6006,.arr 76 5 s45.1.length (rows TreeWord.enc s45.1))] (.agg [.d (.int .i64 x51.1.Root),.d (.int .i64 x51.1.Cost),.d (.int .i64 x51.1.Age)]) [] [(9000,.box 97 [.d (slD encByte a0.b),.d (.int .i64 x51.2.1.p)]),(6006,.arr 76 5 s45.1.length (rows TreeWord.enc x51.2.2.Radio))]] 14 [] [0,1,0,0,8,24,60,0,252,0,0,2044,4092,8188] [16383,32767,65535] [9000,6006] ?_;(conv=>whnf);refine And.intro (eD [(9000,9000)] 0 (spec_l81Rd_pick_c hx49)) ?_;(conv=>whnf);refine And.intro (eD [(9000,9000)] 0 (spec_l81Rd_pick_c hx50)) ?_;(conv=>whnf);refine And.intro (eD [(9000,9000),(9001,6006)] 0 (spec_l85Vector_r15_c hx51)) ?_;(conv=>whnf);refine bldS (enc:=TreeWord.enc) ([(⟨x49.1,x50.1,x51.1⟩:TreeWord)]:List TreeWord) ?_;(conv=>whnf);refine And.intro (by kernel_rfl) ?_;(conv=>whnf);refine gdI g47 (fun g47=>?_);refine appS (enc:=TreeWord.enc) (xs:=x51.2.2.Radio) (ys:=([(⟨x49.1,x50.1,x51.1⟩:TreeWord)]:List TreeWord)) ?_;(conv=>whnf);obtain rfl:=Option.some.inj g47;exact ⟨_,rfl,leX []⟩
            · (conv=>whnf);obtain rfl:=Option.some.inj g47;obtain rfl:=hy46 _ rfl;obtain rfl:=Option.some.inj h;exact lfE [.s [(5001,6006),(6006,5001)]]
noncomputable def spec_l85World_m (a0:l81Rd):Option (TreeWorld × l81Rd) :=
 bd (spec_l85Start_m a0) fun x1 =>
 bd (α:=List TreeBridge × List TreeLink × List Int × List TreeSlot × List TreeSlot × List TreeWord × Int) (bd (spec_l81Rd_pick_m (⟨a0.b,x1.2.p⟩:l81Rd) 3) fun x5 =>
(if (x5.1 == 0) = true then
 bd (spec_l81Rd_pick_m (⟨a0.b,x5.2.p⟩:l81Rd) 12) fun x6 =>
 bd (spec_l81Rd_pick_m (⟨a0.b,x6.2.p⟩:l81Rd) 9) fun x7 =>
 bd (spec_TreeCalm_m x1.1 x6.1 x7.1) fun x8 =>
 some (x8.Bridges,x8.Links,x8.Down,x8.AtA,x8.AtB,x8.Radio,x7.2.p)
else
 some (x1.1.Bridges,x1.1.Links,x1.1.Down,x1.1.AtA,x1.1.AtB,x1.1.Radio,x5.2.p))) fun x2 =>
 bd (spec_l81Rd_pick_m (⟨a0.b,x2.2.2.2.2.2.2⟩:l81Rd) 30) fun x9 =>
 bd (lp (σ:=List TreeBridge × List TreeLink × List Int × List TreeSlot × List TreeSlot × List TreeWord × Int × Int) (β:=((List TreeWord) × Nat × (List TreeSlot) × Nat × (List TreeSlot) × Nat × (List Int) × Nat × (List TreeLink) × Nat × (List TreeBridge) × Nat × Int)) (fun s10 =>
(if (decide (s10.2.2.2.2.2.2.2 > 0)) = true then
 bd (spec_l85Event_m (⟨a0.b,s10.2.2.2.2.2.2.1⟩:l81Rd) (⟨s10.1,s10.2.1,s10.2.2.1,s10.2.2.2.1,s10.2.2.2.2.1,s10.2.2.2.2.2.1⟩:TreeWorld)) fun x14 =>
 bd (spec_TreeStep_m (⟨s10.1,s10.2.1,s10.2.2.1,s10.2.2.2.1,s10.2.2.2.2.1,s10.2.2.2.2.2.1⟩:TreeWorld) x14.1) fun x15 =>
 some (.inl (x15.Bridges,x15.Links,x15.Down,x15.AtA,x15.AtB,x15.Radio,x14.2.p,IntKind.i64.wrap (s10.2.2.2.2.2.2.2 - 1)))
else
 some (.inr (s10.2.2.2.2.2.1,s10.2.2.2.2.2.1.length,s10.2.2.2.2.1,s10.2.2.2.2.1.length,s10.2.2.2.1,s10.2.2.2.1.length,s10.2.2.1,s10.2.2.1.length,s10.2.1,s10.2.1.length,s10.1,s10.1.length,s10.2.2.2.2.2.2.1)))) (x2.1,x2.2.1,x2.2.2.1,x2.2.2.2.1,x2.2.2.2.2.1,x2.2.2.2.2.2.1,x9.2.p,x9.1)) fun x13 =>
 bd (spec_l81Rd_pick_m (⟨a0.b,x13.2.2.2.2.2.2.2.2.2.2.2.2⟩:l81Rd) 2) fun x17 =>
(if (x17.1 == 0) = true then
 bd (spec_l85Haunted_m (⟨a0.b,x17.2.p⟩:l81Rd) (⟨x13.2.2.2.2.2.2.2.2.2.2.1,x13.2.2.2.2.2.2.2.2.1,x13.2.2.2.2.2.2.1,x13.2.2.2.2.1,x13.2.2.1,x13.1⟩:TreeWorld)) fun x18 =>
 some (x18.1,(⟨a0.b,x18.2.p⟩:l81Rd))
else
 some ((⟨x13.2.2.2.2.2.2.2.2.2.2.1,x13.2.2.2.2.2.2.2.2.1,x13.2.2.2.2.2.2.1,x13.2.2.2.2.1,x13.2.2.1,x13.1⟩:TreeWorld),(⟨a0.b,x17.2.p⟩:l81Rd)))
theorem spec_l85World_c {a0:l81Rd} {r:TreeWorld × l81Rd} (h:spec_l85World_m a0 = some r):EffC Try.prog 68 [.ref 9000 0 0] [(9000,.box 97 [.d (slD encByte a0.b),.d (.int .i64 a0.p)])] (.agg [.d (slD TreeBridge.enc r.1.Bridges),.d (slD TreeLink.enc r.1.Links),.d (slD encInt r.1.Down),.d (slD TreeSlot.enc r.1.AtA),.d (slD TreeSlot.enc r.1.AtB),.osl 5001 0 r.1.Radio.length]) [(9000,.box 97 [.d (slD encByte a0.b),.d (.int .i64 r.2.p)]),(5001,.arr 76 5 r.1.Radio.length (rows TreeWord.enc r.1.Radio))]:=by
  refine effC_x tOk (fn:=Try.f68) (c:=codeOf Try.f68) rfl rfl ?_;unfold spec_l85World_m at h;(conv=>whnf);obtain ⟨x1,hx1,h⟩:=bd_some h;refine cE [(9000,9000)] 1000 (spec_l85Start_c hx1) ?_;(conv=>whnf);obtain ⟨x2,hx2,h⟩:=bd_some h;refine seq_join tOk (fun s3=>⟨0,34,[(0,.ref 9000 0 0),(2,.ref 2 0 0),(3,.ref 3 0 0)],[],[(7006,.arr 76 5 s3.2.2.2.2.2.1.length (rows TreeWord.enc s3.2.2.2.2.2.1)),(7005,.arr 107 4 s3.2.2.2.2.1.length (rows TreeSlot.enc s3.2.2.2.2.1)),(7004,.arr 107 4 s3.2.2.2.1.length (rows TreeSlot.enc s3.2.2.2.1)),(7003,.arr 3 1 s3.2.2.1.length (rows encInt s3.2.2.1)),(7002,.arr 46 3 s3.2.1.length (rows TreeLink.enc s3.2.1)),(7001,.arr 43 6 s3.1.length (rows TreeBridge.enc s3.1)),(3,.box 29 [.osl 7001 0 s3.1.length,.osl 7002 0 s3.2.1.length,.osl 7003 0 s3.2.2.1.length,.osl 7004 0 s3.2.2.2.1.length,.osl 7005 0 s3.2.2.2.2.1.length,.osl 7006 0 s3.2.2.2.2.2.1.length]),(2,.box 29 [.d (.nil),.d (.nil),.d (.nil),.d (.nil),.d (.nil),.d (.nil)]),(9000,.box 97 [.d (slD encByte a0.b),.d (.int .i64 s3.2.2.2.2.2.2)])],[⟨[(0,.ref 9000 0 0)],[]⟩]⟩) (fun s3=>x2 = s3) ?_ ?_
  · (conv=>whnf);obtain ⟨x5,hx5,hx2⟩:=bd_some hx2;refine cE [(9000,9000)] 0 (spec_l81Rd_pick_c hx5) ?_;(conv=>whnf);refine andI hx2 (fun _ hx2=>?_) (fun _ hx2=>?_)
    · (conv=>whnf);obtain ⟨x6,hx6,hx2⟩:=bd_some hx2;obtain ⟨x7,hx7,hx2⟩:=bd_some hx2;obtain ⟨x8,hx8,hx2⟩:=bd_some hx2;refine draw_t tOk [.e 2 [(9000,.box 97 [.d (slD encByte a0.b),.d (.int .i64 x5.2.p)])] (.d (.int .i64 x6.1)) [] [(9000,.box 97 [.d (slD encByte a0.b),.d (.int .i64 x6.2.p)])],.e 4 [(9000,.box 97 [.d (slD encByte a0.b),.d (.int .i64 x6.2.p)])] (.d (.int .i64 x7.1)) [] [(9000,.box 97 [.d (slD encByte a0.b),.d (.int .i64 x7.2.p)])],.u 5 2000 (.agg [.osl 5001 0 x8.Bridges.length,.osl 5002 0 x8.Links.length,.osl 5003 0 x8.Down.length,.osl 5004 0 x8.AtA.length,.osl 5005 0 x8.AtB.length,.osl 5006 0 x8.Radio.length]) [⟨5001,43,6,x8.Bridges.length,rows TreeBridge.enc x8.Bridges⟩,⟨5002,46,3,x8.Links.length,rows TreeLink.enc x8.Links⟩,⟨5003,3,1,x8.Down.length,rows encInt x8.Down⟩,⟨5004,107,4,x8.AtA.length,rows TreeSlot.enc x8.AtA⟩,⟨5005,107,4,x8.AtB.length,rows TreeSlot.enc x8.AtB⟩,⟨5006,76,5,x8.Radio.length,rows TreeWord.enc x8.Radio⟩]] 6 [] [0,0,2,0,14,31] [63] [9000] ?_;(conv=>whnf);refine And.intro (eD [(9000,9000)] 0 (spec_l81Rd_pick_c hx6)) ?_;(conv=>whnf);refine And.intro (eD [(9000,9000)] 0 (spec_l81Rd_pick_c hx7)) ?_;(conv=>whnf);refine And.intro (callD_any (spec_TreeCalm_c hx8) (by kernel_rfl)) ?_;(conv=>whnf);refine And.intro (by kernel_rfl) ?_;(conv=>whnf);obtain rfl:=Option.some.inj hx2;exact ⟨_,rfl,leX []⟩
    · (conv=>whnf);obtain rfl:=Option.some.inj hx2;exact ⟨_,rfl,leX [.s [(6001,7001),(6002,7002),(6003,7003),(6004,7004),(6005,7005),(6006,7006),(7001,6001),(7002,6002),(7003,6003),(7004,6004),(7005,6005),(7006,6006)]]⟩
  · rintro _ rfl;(conv=>whnf);refine seq_in tOk ?_;(conv=>whnf);obtain ⟨x9,hx9,h⟩:=bd_some h;refine cE [(9000,9000)] 0 (spec_l81Rd_pick_c hx9) ?_;(conv=>whnf);obtain ⟨x13,hx13,h⟩:=bd_some h;refine loop_m tOk hx13 (fun s10=>⟨0,34,[(0,.ref 9000 0 0),(2,.ref 2 0 0),(3,.ref 3 0 0),(4,.d (.int .i64 s10.2.2.2.2.2.2.2))],[],[(7006,.arr 76 5 s10.2.2.2.2.2.1.length (rows TreeWord.enc s10.2.2.2.2.2.1)),(7005,.arr 107 4 s10.2.2.2.2.1.length (rows TreeSlot.enc s10.2.2.2.2.1)),(7004,.arr 107 4 s10.2.2.2.1.length (rows TreeSlot.enc s10.2.2.2.1)),(7003,.arr 3 1 s10.2.2.1.length (rows encInt s10.2.2.1)),(7002,.arr 46 3 s10.2.1.length (rows TreeLink.enc s10.2.1)),(7001,.arr 43 6 s10.1.length (rows TreeBridge.enc s10.1)),(3,.box 29 [.osl 7001 0 s10.1.length,.osl 7002 0 s10.2.1.length,.osl 7003 0 s10.2.2.1.length,.osl 7004 0 s10.2.2.2.1.length,.osl 7005 0 s10.2.2.2.2.1.length,.osl 7006 0 s10.2.2.2.2.2.1.length]),(2,.box 29 [.d (.nil),.d (.nil),.d (.nil),.d (.nil),.d (.nil),.d (.nil)]),(9000,.box 97 [.d (slD encByte a0.b),.d (.int .i64 s10.2.2.2.2.2.2.1)])],[⟨[(0,.ref 9000 0 0)],[]⟩]⟩) ?_ ?_
    · exact leX []
    · clear hx13;intro s10 y11 g12 hy11;(conv=>whnf);refine seq_in tOk ?_;(conv=>whnf);refine andI g12 (fun _ g12=>?_) (fun _ g12=>?_)
      · (conv=>whnf);refine seq_in tOk ?_;(conv=>whnf);obtain ⟨x14,hx14,g12⟩:=bd_some g12;obtain ⟨x15,hx15,g12⟩:=bd_some g12;refine drawFz [7001,7002,7003,7004,7005,7006] ?_;(conv=>whnf);refine draw_t tOk [.e 3 [(9000,.box 97 [.d (slD encByte a0.b),.d (.int .i64 s10.2.2.2.2.2.2.1)])] (.agg [.d (.int .i64 x14.1.Kind),.d (.int .i64 x14.1.At),.d (.int .i64 x14.1.End)]) [] [(9000,.box 97 [.d (slD encByte a0.b),.d (.int .i64 x14.2.p)])],.u 4 1000 (.agg [.osl 5001 0 x15.Bridges.length,.osl 5002 0 x15.Links.length,.osl 5003 0 x15.Down.length,.osl 5004 0 x15.AtA.length,.osl 5005 0 x15.AtB.length,.osl 5006 0 x15.Radio.length]) [⟨5001,43,6,x15.Bridges.length,rows TreeBridge.enc x15.Bridges⟩,⟨5002,46,3,x15.Links.length,rows TreeLink.enc x15.Links⟩,⟨5003,3,1,x15.Down.length,rows encInt x15.Down⟩,⟨5004,107,4,x15.AtA.length,rows TreeSlot.enc x15.AtA⟩,⟨5005,107,4,x15.AtB.length,rows TreeSlot.enc x15.AtB⟩,⟨5006,76,5,x15.Radio.length,rows TreeWord.enc x15.Radio⟩]] 5 [] [0,0,0,6,15] [31] [9000] ?_;(conv=>whnf);refine And.intro (eD [(9000,9000)] 0 (spec_l85Event_c hx14)) ?_;(conv=>whnf);refine And.intro (callD_any (spec_TreeStep_c hx15) (by kernel_rfl)) ?_;(conv=>whnf);refine And.intro (by kernel_rfl) ?_;(conv=>whnf);obtain rfl:=Option.some.inj g12;exact ⟨_,rfl,leX [.s [(6001,7001),(6002,7002),(6003,7003),(6004,7004),(6005,7005),(6006,7006),(7001,6001),(7002,6002),(7003,6003),(7004,6004),(7005,6005),(7006,6006)]]⟩
      · (conv=>whnf);obtain rfl:=Option.some.inj g12;obtain rfl:=hy11 _ rfl;refine seq_in tOk ?_;(conv=>whnf);obtain ⟨x17,hx17,h⟩:=bd_some h;refine cE [(9000,9000)] 0 (spec_l81Rd_pick_c hx17) ?_;(conv=>whnf);refine andI h (fun _ h=>?_) (fun _ h=>?_)
        · (conv=>whnf);obtain ⟨x18,hx18,h⟩:=bd_some h;refine callFz [7001,7002,7003,7004,7005,7006] ?_;(conv=>whnf);refine cE [(9000,9000)] 1000 (spec_l85Haunted_c hx18) ?_;(conv=>whnf);obtain rfl:=Option.some.inj h;exact lfE [.s [(5001,6001),(6001,5001)]]
        · (conv=>whnf);obtain rfl:=Option.some.inj h;exact lfE [.f [7001,7002,7003,7004,7005],.s [(5001,7006),(7006,5001)]]
noncomputable def spec_l85SpoilVector_m (a0:l81Rd) (a1:TreeVector):Option (TreeVector × l81Rd) :=
 bd (spec_l81Rd_pick_m a0 3) fun x1 =>
(if (x1.1 == 0) = true then
 bd (spec_l81Rd_pick_m (⟨a0.b,x1.2.p⟩:l81Rd) 5) fun x2 =>
 gd ((0:Int)≤x2.1∧x2.1<((([-1,0,1,1000,1001]:List Int).length:Nat):Int)) <|
 some ({ a1 with Root:=(([-1,0,1,1000,1001]:List Int).getD x2.1.toNat default) },(⟨a0.b,x2.2.p⟩:l81Rd))
else
(if (x1.1 == 1) = true then
 bd (spec_l81Rd_pick_m (⟨a0.b,x1.2.p⟩:l81Rd) 4) fun x4 =>
 gd ((0:Int)≤x4.1∧x4.1<((([-1,0,1000,1001]:List Int).length:Nat):Int)) <|
 some ({ a1 with Cost:=(([-1,0,1000,1001]:List Int).getD x4.1.toNat default) },(⟨a0.b,x4.2.p⟩:l81Rd))
else
 bd (spec_l81Rd_pick_m (⟨a0.b,x1.2.p⟩:l81Rd) 4) fun x6 =>
 gd ((0:Int)≤x6.1∧x6.1<((([-1,0,10,11]:List Int).length:Nat):Int)) <|
 some ({ a1 with Age:=(([-1,0,10,11]:List Int).getD x6.1.toNat default) },(⟨a0.b,x6.2.p⟩:l81Rd))))
theorem spec_l85SpoilVector_c {a0:l81Rd} {a1:TreeVector} {r:TreeVector × l81Rd} (h:spec_l85SpoilVector_m a0 a1 = some r):EffC Try.prog 117 [.ref 9000 0 0,.agg [.d (.int .i64 a1.Root),.d (.int .i64 a1.Cost),.d (.int .i64 a1.Age)]] [(9000,.box 97 [.d (slD encByte a0.b),.d (.int .i64 a0.p)])] (.agg [.d (.int .i64 r.1.Root),.d (.int .i64 r.1.Cost),.d (.int .i64 r.1.Age)]) [(9000,.box 97 [.d (slD encByte a0.b),.d (.int .i64 r.2.p)])]:=by
  refine effC_x tOk (fn:=Try.f117) (c:=codeOf Try.f117) rfl rfl ?_;unfold spec_l85SpoilVector_m at h;(conv=>whnf);refine seq_in tOk ?_;(conv=>whnf);obtain ⟨x1,hx1,h⟩:=bd_some h;refine cE [(9000,9000)] 0 (spec_l81Rd_pick_c hx1) ?_;(conv=>whnf);refine andI h (fun _ h=>?_) (fun _ h=>?_)
  · (conv=>whnf);refine bldS (enc:=encInt) ([-1,0,1,1000,1001]:List Int) ?_;(conv=>whnf);obtain ⟨x2,hx2,h⟩:=bd_some h;refine cE [(9000,9000)] 0 (spec_l81Rd_pick_c hx2) ?_;(conv=>whnf);refine gdI h (fun h=>?_);(conv=>whnf);obtain rfl:=Option.some.inj h;exact lfE []
  · (conv=>whnf);refine andI h (fun _ h=>?_) (fun _ h=>?_)
    · (conv=>whnf);refine bldS (enc:=encInt) ([-1,0,1000,1001]:List Int) ?_;(conv=>whnf);obtain ⟨x4,hx4,h⟩:=bd_some h;refine cE [(9000,9000)] 0 (spec_l81Rd_pick_c hx4) ?_;(conv=>whnf);refine gdI h (fun h=>?_);(conv=>whnf);obtain rfl:=Option.some.inj h;exact lfE []
    · (conv=>whnf);refine bldS (enc:=encInt) ([-1,0,10,11]:List Int) ?_;(conv=>whnf);obtain ⟨x6,hx6,h⟩:=bd_some h;refine cE [(9000,9000)] 0 (spec_l81Rd_pick_c hx6) ?_;(conv=>whnf);refine gdI h (fun h=>?_);(conv=>whnf);obtain rfl:=Option.some.inj h;exact lfE []
noncomputable def spec_l85Spoil_m (a0:l81Rd) (a1:TreeWorld):Option (TreeWorld × l81Rd) :=
 bd (spec_l82Copy_m a1) fun x1 =>
 bd (spec_l81Rd_pick_m a0 ((x1.Bridges.length:Nat):Int)) fun x2 =>
 bd (spec_l81Rd_pick_m (⟨a0.b,x2.2.p⟩:l81Rd) (IntKind.i64.wrap (((x1.Links.length:Nat):Int)+1))) fun x3 =>
 bd (α:=List TreeWord × List TreeBridge × List TreeLink × List Int × List TreeSlot × List TreeSlot × Int) (bd (spec_l81Rd_pick_m (⟨a0.b,x3.2.p⟩:l81Rd) 9) fun x7 =>
(if (x7.1 == 0) = true then
 gd ((0:Int)≤0∧0<((x1.Bridges.length:Nat):Int)) <|
 bd (spec_l81Rd_pick_m (⟨a0.b,x7.2.p⟩:l81Rd) 5) fun x9 =>
 gd ((0:Int)≤x9.1∧x9.1<((([0,1,1000,1001,(x1.Bridges.getD 0 default).Id]:List Int).length:Nat):Int)) <|
 gd ((0:Int)≤x2.1∧x2.1<((x1.Bridges.length:Nat):Int)) <|
 bd (some (x1.Bridges.set x2.1.toNat (⟨(([0,1,1000,1001,(x1.Bridges.getD 0 default).Id]:List Int).getD x9.1.toNat default),(x1.Bridges.getD x2.1.toNat default).Up,(⟨(((x1.Bridges.getD x2.1.toNat default).Mind).Vector),((x1.Bridges.getD x2.1.toNat default).Mind).Link⟩:TreeMind)⟩:TreeBridge))) fun x12 =>
 some (x1.Radio,x12,x1.Links,x1.Down,x1.AtA,x1.AtB,x9.2.p)
else
(if (x7.1 == 1) = true then
 gd ((0:Int)≤x2.1∧x2.1<((x1.Bridges.length:Nat):Int)) <|
 gd ((0:Int)≤x2.1∧x2.1<((x1.Bridges.length:Nat):Int)) <|
 bd (some (x1.Bridges.set x2.1.toNat (⟨(x1.Bridges.getD x2.1.toNat default).Id,(!((x1.Bridges.getD x2.1.toNat default).Up)),(⟨(((x1.Bridges.getD x2.1.toNat default).Mind).Vector),((x1.Bridges.getD x2.1.toNat default).Mind).Link⟩:TreeMind)⟩:TreeBridge))) fun x15 =>
 some (x1.Radio,x15,x1.Links,x1.Down,x1.AtA,x1.AtB,x7.2.p)
else
(if (x7.1 == 2) = true then
 gd ((0:Int)≤x2.1∧x2.1<((x1.Bridges.length:Nat):Int)) <|
 bd (spec_l85SpoilVector_m (⟨a0.b,x7.2.p⟩:l81Rd) (((x1.Bridges.getD x2.1.toNat default).Mind).Vector)) fun x17 =>
 gd ((0:Int)≤x2.1∧x2.1<((x1.Bridges.length:Nat):Int)) <|
 bd (some (x1.Bridges.set x2.1.toNat ({ (x1.Bridges.getD x2.1.toNat default) with Mind:=(⟨x17.1,((x1.Bridges.getD x2.1.toNat default).Mind).Link⟩:TreeMind) }))) fun x19 =>
 some (x1.Radio,x19,x1.Links,x1.Down,x1.AtA,x1.AtB,x17.2.p)
else
(if (x7.1 == 3) = true then
 bd (spec_l81Rd_pick_m (⟨a0.b,x7.2.p⟩:l81Rd) 4) fun x20 =>
 gd ((0:Int)≤x20.1∧x20.1<((([-2,-1,IntKind.i64.wrap (((x1.Links.length:Nat):Int) - 1),((x1.Links.length:Nat):Int)]:List Int).length:Nat):Int)) <|
 gd ((0:Int)≤x2.1∧x2.1<((x1.Bridges.length:Nat):Int)) <|
 bd (some (x1.Bridges.set x2.1.toNat ({ (x1.Bridges.getD x2.1.toNat default) with Mind:=(⟨(((x1.Bridges.getD x2.1.toNat default).Mind).Vector),(([-2,-1,IntKind.i64.wrap (((x1.Links.length:Nat):Int) - 1),((x1.Links.length:Nat):Int)]:List Int).getD x20.1.toNat default)⟩:TreeMind) }))) fun x23 =>
 some (x1.Radio,x23,x1.Links,x1.Down,x1.AtA,x1.AtB,x20.2.p)
else
(if (x7.1 == 4) = true then
(if (decide (x3.1<((x1.Links.length:Nat):Int))) = true then
 bd (spec_l81Rd_pick_m (⟨a0.b,x7.2.p⟩:l81Rd) 4) fun x24 =>
 gd ((0:Int)≤x24.1∧x24.1<((([0,1,50,51]:List Int).length:Nat):Int)) <|
 gd ((0:Int)≤x3.1∧x3.1<((x1.Links.length:Nat):Int)) <|
 bd (some (x1.Links.set x3.1.toNat ({ (x1.Links.getD x3.1.toNat default) with Cost:=(([0,1,50,51]:List Int).getD x24.1.toNat default) }))) fun x27 =>
 gd ((0:Int)≤x3.1∧x3.1<((x1.Links.length:Nat):Int)) <|
 bd (spec_l81Rd_pick_m (⟨a0.b,x24.2.p⟩:l81Rd) 2) fun x29 =>
 gd ((0:Int)≤x3.1∧x3.1<((x1.Links.length:Nat):Int)) <|
 bd (some (x27.set x3.1.toNat ({ (x27.getD x3.1.toNat default) with B:=IntKind.i64.wrap (((x27.getD x3.1.toNat default).B)+x29.1) }))) fun x31 =>
 some (x1.Radio,x1.Bridges,x31,x1.Down,x1.AtA,x1.AtB,x29.2.p)
else
 some (x1.Radio,x1.Bridges,x1.Links,x1.Down,x1.AtA,x1.AtB,x7.2.p))
else
(if (x7.1 == 5) = true then
 bd (spec_l81Rd_pick_m (⟨a0.b,x7.2.p⟩:l81Rd) 4) fun x32 =>
 gd ((0:Int)≤x32.1∧x32.1<((([-1,0,IntKind.i64.wrap (((x1.Links.length:Nat):Int) - 1),((x1.Links.length:Nat):Int)]:List Int).length:Nat):Int)) <|
 gd (((x1.Down.length)+(([(([-1,0,IntKind.i64.wrap (((x1.Links.length:Nat):Int) - 1),((x1.Links.length:Nat):Int)]:List Int).getD x32.1.toNat default)]:List Int).length)) * (8+1)≤70368744177664) <|
 some (x1.Radio,x1.Bridges,x1.Links,(x1.Down ++ ([(([-1,0,IntKind.i64.wrap (((x1.Links.length:Nat):Int) - 1),((x1.Links.length:Nat):Int)]:List Int).getD x32.1.toNat default)]:List Int)),x1.AtA,x1.AtB,x32.2.p)
else
(if (x7.1 == 6) = true then
(if (decide (x3.1<((x1.AtA.length:Nat):Int))) = true then
 gd ((0:Int)≤x3.1∧x3.1<((x1.AtA.length:Nat):Int)) <|
 bd (spec_l85SpoilVector_m (⟨a0.b,x7.2.p⟩:l81Rd) ((x1.AtA.getD x3.1.toNat default).Vector)) fun x36 =>
 gd ((0:Int)≤x3.1∧x3.1<((x1.AtA.length:Nat):Int)) <|
 some (x1.Radio,x1.Bridges,x1.Links,x1.Down,x1.AtA.set x3.1.toNat (⟨x36.1,(x1.AtA.getD x3.1.toNat default).Left⟩:TreeSlot),x1.AtB,x36.2.p)
else
 some (x1.Radio,x1.Bridges,x1.Links,x1.Down,x1.AtA,x1.AtB,x7.2.p))
else
(if (x7.1 == 7) = true then
(if (decide (x3.1<((x1.AtB.length:Nat):Int))) = true then
 bd (spec_l81Rd_pick_m (⟨a0.b,x7.2.p⟩:l81Rd) 4) fun x38 =>
 gd ((0:Int)≤x38.1∧x38.1<((([-1,0,3,4]:List Int).length:Nat):Int)) <|
 gd ((0:Int)≤x3.1∧x3.1<((x1.AtB.length:Nat):Int)) <|
 bd (some (x1.AtB.set x3.1.toNat (⟨((x1.AtB.getD x3.1.toNat default).Vector),(([-1,0,3,4]:List Int).getD x38.1.toNat default)⟩:TreeSlot))) fun x41 =>
 some (x1.Radio,x1.Bridges,x1.Links,x1.Down,x1.AtA,x41,x38.2.p)
else
 gd (((x1.AtB.length)+(([(⟨(⟨0,0,0⟩:TreeVector),0⟩:TreeSlot)]:List TreeSlot).length)) * (32+1)≤70368744177664) <|
 some (x1.Radio,x1.Bridges,x1.Links,x1.Down,x1.AtA,(x1.AtB ++ ([(⟨(⟨0,0,0⟩:TreeVector),0⟩:TreeSlot)]:List TreeSlot)),x7.2.p))
else
 bd (spec_l81Rd_pick_m (⟨a0.b,x7.2.p⟩:l81Rd) (IntKind.i64.wrap (((x1.Links.length:Nat):Int)+2))) fun x43 =>
 bd (spec_l81Rd_pick_m (⟨a0.b,x43.2.p⟩:l81Rd) 4) fun x44 =>
 bd (spec_l85Vector_r15_m (⟨a0.b,x44.2.p⟩:l81Rd) x1) fun x45 =>
 gd (x45.2.2.Radio.length = x1.Radio.length) <|
 gd (((x1.Radio.length)+(([(⟨IntKind.i64.wrap (x43.1 - 1),IntKind.i64.wrap (x44.1 - 1),x45.1⟩:TreeWord)]:List TreeWord).length)) * (40+1)≤70368744177664) <|
 bd (lp (σ:=List TreeWord × Int) (β:=((List TreeWord) × Nat × Int)) (fun s47 =>
 bd (spec_l81Rd_pick_m (⟨a0.b,s47.2⟩:l81Rd) 3) fun x51 =>
(if ((x51.1 == 0) && (decide (((s47.1.length:Nat):Int)<13))) = true then
 gd ((0:Int)≤0∧0<((s47.1.length:Nat):Int)) <|
 gd (((s47.1.length)+(([{ (s47.1.getD 0 default) with Vector:=((s47.1.getD 0 default).Vector) }]:List TreeWord).length)) * (40+1)≤70368744177664) <|
 some (.inl ((s47.1 ++ ([{ (s47.1.getD 0 default) with Vector:=((s47.1.getD 0 default).Vector) }]:List TreeWord)),x51.2.p))
else
 some (.inr (s47.1,s47.1.length,x51.2.p)))) ((x45.2.2.Radio ++ ([(⟨IntKind.i64.wrap (x43.1 - 1),IntKind.i64.wrap (x44.1 - 1),x45.1⟩:TreeWord)]:List TreeWord)),x45.2.1.p)) fun x50 =>
 some (x50.1,x1.Bridges,x1.Links,x1.Down,x1.AtA,x1.AtB,x50.2.2)))))))))) fun x4 =>
 some ((⟨x4.2.1,x4.2.2.1,x4.2.2.2.1,x4.2.2.2.2.1,x4.2.2.2.2.2.1,x4.1⟩:TreeWorld),(⟨a0.b,x4.2.2.2.2.2.2⟩:l81Rd))
theorem spec_l85Spoil_c {a0:l81Rd} {a1:TreeWorld} {r:TreeWorld × l81Rd} (h:spec_l85Spoil_m a0 a1 = some r):EffC Try.prog 74 [.ref 9000 0 0,.agg [.d (slD TreeBridge.enc a1.Bridges),.d (slD TreeLink.enc a1.Links),.d (slD encInt a1.Down),.d (slD TreeSlot.enc a1.AtA),.d (slD TreeSlot.enc a1.AtB),.d (slD TreeWord.enc a1.Radio)]] [(9000,.box 97 [.d (slD encByte a0.b),.d (.int .i64 a0.p)])] (.agg [.d (slD TreeBridge.enc r.1.Bridges),.d (slD TreeLink.enc r.1.Links),.d (slD encInt r.1.Down),.d (slD TreeSlot.enc r.1.AtA),.d (slD TreeSlot.enc r.1.AtB),.osl 5001 0 r.1.Radio.length]) [(9000,.box 97 [.d (slD encByte a0.b),.d (.int .i64 r.2.p)]),(5001,.arr 76 5 r.1.Radio.length (rows TreeWord.enc r.1.Radio))]:=by
  refine effC_x tOk (fn:=Try.f74) (c:=codeOf Try.f74) rfl rfl ?_;unfold spec_l85Spoil_m at h;(conv=>whnf);obtain ⟨x1,hx1,h⟩:=bd_some h;refine cC 1000 (spec_l82Copy_c hx1) ?_;clear hx1;(conv=>whnf);obtain ⟨x2,hx2,h⟩:=bd_some h;refine cE [(9000,9000)] 0 (spec_l81Rd_pick_c hx2) ?_;(conv=>whnf);obtain ⟨x3,hx3,h⟩:=bd_some h;refine cE [(9000,9000)] 0 (spec_l81Rd_pick_c hx3) ?_;(conv=>whnf);obtain ⟨x4,hx4,h⟩:=bd_some h;refine seq_join tOk (fun s5=>⟨0,223,[(3,.ref 3 0 0),(4,.ref 4 0 0)],[],[(6006,.arr 76 5 s5.1.length (rows TreeWord.enc s5.1)),(4,.box 29 [.d (.nil),.d (.nil),.d (.nil),.d (.nil),.d (.nil),.d (.nil)]),(3,.box 29 [.d (slD TreeBridge.enc s5.2.1),.d (slD TreeLink.enc s5.2.2.1),.d (slD encInt s5.2.2.2.1),.d (slD TreeSlot.enc s5.2.2.2.2.1),.d (slD TreeSlot.enc s5.2.2.2.2.2.1),.osl 6006 0 s5.1.length]),(9000,.box 97 [.d (slD encByte a0.b),.d (.int .i64 s5.2.2.2.2.2.2)])],[⟨[(0,.ref 9000 0 0)],[]⟩]⟩) (fun s5=>x4 = s5) ?_ ?_
  · (conv=>whnf);obtain ⟨x7,hx7,hx4⟩:=bd_some hx4;refine cE [(9000,9000)] 0 (spec_l81Rd_pick_c hx7) ?_;(conv=>whnf);refine andI hx4 (fun _ hx4=>?_) (fun _ hx4=>?_)
    · (conv=>whnf);obtain ⟨g8,hx4⟩:=gd_some hx4;obtain ⟨x9,hx9,hx4⟩:=bd_some hx4;obtain ⟨g10,hx4⟩:=gd_some hx4;obtain ⟨g11,hx4⟩:=gd_some hx4;refine draw_t tOk [.e 10 [(9000,.box 97 [.d (slD encByte a0.b),.d (.int .i64 x7.2.p)])] (.d (.int .i64 x9.1)) [] [(9000,.box 97 [.d (slD encByte a0.b),.d (.int .i64 x9.2.p)])]] 15 [] [0,1,0,0,8,24,56,120,248,0,512,2040,4088,8191,16383] [32767] [9000] ?_;(conv=>whnf);refine And.intro g8 ?_;clear g8;(conv=>whnf);refine bldS (enc:=encInt) ([0,1,1000,1001,(x1.Bridges.getD 0 default).Id]:List Int) ?_;(conv=>whnf);refine And.intro (eD [(9000,9000)] 0 (spec_l81Rd_pick_c hx9)) ?_;(conv=>whnf);refine And.intro g10 ?_;clear g10;(conv=>whnf);refine And.intro g11 ?_;clear g11;(conv=>whnf);refine And.intro (by kernel_rfl) ?_;(conv=>whnf);obtain ⟨x12,hx12,hlx12,hx4⟩:=bd_set hx4;refine setS (enc:=TreeBridge.enc) hx12 ?_;(conv=>whnf);obtain rfl:=Option.some.inj hx4;exact ⟨_,rfl,leX [.f [6001,6002,6003,6004,6005]]⟩
    · (conv=>whnf);refine andI hx4 (fun _ hx4=>?_) (fun _ hx4=>?_)
      · (conv=>whnf);obtain ⟨g13,hx4⟩:=gd_some hx4;obtain ⟨g14,hx4⟩:=gd_some hx4;refine draw_u tOk [] 12 [] [0,1,0,0,8,0,56,120,248,504,1023,2047] [4095] ?_;(conv=>whnf);refine And.intro g13 ?_;clear g13;(conv=>whnf);refine And.intro g14 ?_;clear g14;(conv=>whnf);refine And.intro (by kernel_rfl) ?_;(conv=>whnf);obtain ⟨x15,hx15,hlx15,hx4⟩:=bd_set hx4;refine setS (enc:=TreeBridge.enc) hx15 ?_;(conv=>whnf);obtain rfl:=Option.some.inj hx4;exact ⟨_,rfl,leX [.f [6001,6002,6003,6004,6005]]⟩
      · (conv=>whnf);refine andI hx4 (fun _ hx4=>?_) (fun _ hx4=>?_)
        · (conv=>whnf);obtain ⟨g16,hx4⟩:=gd_some hx4;obtain ⟨x17,hx17,hx4⟩:=bd_some hx4;obtain ⟨g18,hx4⟩:=gd_some hx4;refine draw_t tOk [.e 11 [(9000,.box 97 [.d (slD encByte a0.b),.d (.int .i64 x7.2.p)])] (.agg [.d (.int .i64 x17.1.Root),.d (.int .i64 x17.1.Cost),.d (.int .i64 x17.1.Age)]) [] [(9000,.box 97 [.d (slD encByte a0.b),.d (.int .i64 x17.2.p)])]] 15 [] [0,1,0,0,0,16,0,112,240,496,1008,2040,4095,8191,16383] [32767] [9000] ?_;(conv=>whnf);refine And.intro g16 ?_;clear g16;(conv=>whnf);refine And.intro (eD [(9000,9000)] 0 (spec_l85SpoilVector_c hx17)) ?_;(conv=>whnf);refine And.intro g18 ?_;clear g18;(conv=>whnf);refine And.intro (by kernel_rfl) ?_;(conv=>whnf);obtain ⟨x19,hx19,hlx19,hx4⟩:=bd_set hx4;refine setS (enc:=TreeBridge.enc) hx19 ?_;(conv=>whnf);obtain rfl:=Option.some.inj hx4;exact ⟨_,rfl,leX [.f [6001,6002,6003,6004,6005]]⟩
        · (conv=>whnf);refine andI hx4 (fun _ hx4=>?_) (fun _ hx4=>?_)
          · (conv=>whnf);obtain ⟨x20,hx20,hx4⟩:=bd_some hx4;obtain ⟨g21,hx4⟩:=gd_some hx4;obtain ⟨g22,hx4⟩:=gd_some hx4;refine draw_t tOk [.e 12 [(9000,.box 97 [.d (slD encByte a0.b),.d (.int .i64 x7.2.p)])] (.d (.int .i64 x20.1)) [] [(9000,.box 97 [.d (slD encByte a0.b),.d (.int .i64 x20.2.p)])]] 18 [] [0,1,0,0,8,24,56,0,128,384,1016,0,2048,8184,16376,32767,65535,131071] [262143] [9000] ?_;(conv=>whnf);refine bldS (enc:=encInt) ([-2,-1,IntKind.i64.wrap (((x1.Links.length:Nat):Int) - 1),((x1.Links.length:Nat):Int)]:List Int) ?_;(conv=>whnf);refine And.intro (eD [(9000,9000)] 0 (spec_l81Rd_pick_c hx20)) ?_;(conv=>whnf);refine And.intro g21 ?_;clear g21;(conv=>whnf);refine And.intro g22 ?_;clear g22;(conv=>whnf);refine And.intro (by kernel_rfl) ?_;(conv=>whnf);obtain ⟨x23,hx23,hlx23,hx4⟩:=bd_set hx4;refine setS (enc:=TreeBridge.enc) hx23 ?_;(conv=>whnf);obtain rfl:=Option.some.inj hx4;exact ⟨_,rfl,leX [.f [6001,6002,6003,6004,6005]]⟩
          · (conv=>whnf);refine andI hx4 (fun _ hx4=>?_) (fun _ hx4=>?_)
            · (conv=>whnf);refine andI hx4 (fun _ hx4=>?_) (fun _ hx4=>?_)
              · (conv=>whnf);obtain ⟨x24,hx24,hx4⟩:=bd_some hx4;obtain ⟨g25,hx4⟩:=gd_some hx4;obtain ⟨g26,hx4⟩:=gd_some hx4;refine draw_t tOk [.e 5 [(9000,.box 97 [.d (slD encByte a0.b),.d (.int .i64 x7.2.p)])] (.d (.int .i64 x24.1)) [] [(9000,.box 97 [.d (slD encByte a0.b),.d (.int .i64 x24.2.p)])]] 10 [] [0,1,0,0,0,16,56,120,255,511] [1023] [9000] ?_;(conv=>whnf);refine bldS (enc:=encInt) ([0,1,50,51]:List Int) ?_;(conv=>whnf);refine And.intro (eD [(9000,9000)] 0 (spec_l81Rd_pick_c hx24)) ?_;(conv=>whnf);refine And.intro g25 ?_;clear g25;(conv=>whnf);refine And.intro g26 ?_;clear g26;(conv=>whnf);refine And.intro (by kernel_rfl) ?_;(conv=>whnf);obtain ⟨x27,hx27,hlx27,hx4⟩:=bd_set hx4;refine setS (enc:=TreeLink.enc) hx27 ?_;(conv=>whnf);obtain ⟨g28,hx4⟩:=gd_some hx4;obtain ⟨x29,hx29,hx4⟩:=bd_some hx4;obtain ⟨g30,hx4⟩:=gd_some hx4;refine draw_t tOk [.e 10 [(9000,.box 97 [.d (slD encByte a0.b),.d (.int .i64 x24.2.p)])] (.d (.int .i64 x29.1)) [] [(9000,.box 97 [.d (slD encByte a0.b),.d (.int .i64 x29.2.p)])]] 14 [] [0,1,0,0,8,0,56,120,248,0,512,2040,4095,8191] [16383] [9000] ?_;(conv=>whnf);refine And.intro g28 ?_;clear g28;(conv=>whnf);refine And.intro (eD [(9000,9000)] 0 (spec_l81Rd_pick_c hx29)) ?_;(conv=>whnf);refine And.intro g30 ?_;clear g30;(conv=>whnf);refine And.intro (by kernel_rfl) ?_;(conv=>whnf);obtain ⟨x31,hx31,hlx31,hx4⟩:=bd_set hx4;refine setS (enc:=TreeLink.enc) hx31 ?_;(conv=>whnf);obtain rfl:=Option.some.inj hx4;exact ⟨_,rfl,leX [.f [6001,6002,6003,6004,6005]]⟩
              · (conv=>whnf);obtain rfl:=Option.some.inj hx4;exact ⟨_,rfl,leX [.f [6001,6002,6003,6004,6005]]⟩
            · (conv=>whnf);refine andI hx4 (fun _ hx4=>?_) (fun _ hx4=>?_)
              · (conv=>whnf);obtain ⟨x32,hx32,hx4⟩:=bd_some hx4;obtain ⟨g33,hx4⟩:=gd_some hx4;refine draw_t tOk [.e 11 [(9000,.box 97 [.d (slD encByte a0.b),.d (.int .i64 x7.2.p)])] (.d (.int .i64 x32.1)) [] [(9000,.box 97 [.d (slD encByte a0.b),.d (.int .i64 x32.2.p)])]] 15 [] [0,1,0,4,12,28,0,64,192,508,0,1024,4092,8188,16380] [32767,65535,131071] [9000] ?_;(conv=>whnf);refine bldS (enc:=encInt) ([-1,0,IntKind.i64.wrap (((x1.Links.length:Nat):Int) - 1),((x1.Links.length:Nat):Int)]:List Int) ?_;(conv=>whnf);refine And.intro (eD [(9000,9000)] 0 (spec_l81Rd_pick_c hx32)) ?_;(conv=>whnf);refine And.intro g33 ?_;clear g33;(conv=>whnf);refine bldS (enc:=encInt) ([(([-1,0,IntKind.i64.wrap (((x1.Links.length:Nat):Int) - 1),((x1.Links.length:Nat):Int)]:List Int).getD x32.1.toNat default)]:List Int) ?_;(conv=>whnf);refine And.intro (by kernel_rfl) ?_;(conv=>whnf);refine gdI hx4 (fun hx4=>?_);refine appS (enc:=encInt) (xs:=x1.Down) (ys:=([(([-1,0,IntKind.i64.wrap (((x1.Links.length:Nat):Int) - 1),((x1.Links.length:Nat):Int)]:List Int).getD x32.1.toNat default)]:List Int)) ?_;(conv=>whnf);obtain rfl:=Option.some.inj hx4;exact ⟨_,rfl,leX [.f [6001,6002,6003,6004,6005]]⟩
              · (conv=>whnf);refine andI hx4 (fun _ hx4=>?_) (fun _ hx4=>?_)
                · (conv=>whnf);refine andI hx4 (fun _ hx4=>?_) (fun _ hx4=>?_)
                  · (conv=>whnf);obtain ⟨g35,hx4⟩:=gd_some hx4;obtain ⟨x36,hx36,hx4⟩:=bd_some hx4;obtain ⟨g37,hx4⟩:=gd_some hx4;refine draw_t tOk [.e 10 [(9000,.box 97 [.d (slD encByte a0.b),.d (.int .i64 x7.2.p)])] (.agg [.d (.int .i64 x36.1.Root),.d (.int .i64 x36.1.Cost),.d (.int .i64 x36.1.Age)]) [] [(9000,.box 97 [.d (slD encByte a0.b),.d (.int .i64 x36.2.p)])]] 13 [] [0,1,0,0,0,16,0,112,240,496,1016,2047,4095] [8191] [9000] ?_;(conv=>whnf);refine And.intro g35 ?_;clear g35;(conv=>whnf);refine And.intro (eD [(9000,9000)] 0 (spec_l85SpoilVector_c hx36)) ?_;(conv=>whnf);refine And.intro g37 ?_;clear g37;(conv=>whnf);refine And.intro (by kernel_rfl) ?_;(conv=>whnf);refine ⟨rows TreeSlot.enc (x1.AtA.set x3.1.toNat (⟨x36.1,(x1.AtA.getD x3.1.toNat default).Left⟩:TreeSlot)),store_rows' lenA rfl,?_⟩;(conv=>whnf);obtain rfl:=Option.some.inj hx4;exact ⟨_,rfl,leX [.f [6001,6002,6003,6004,6005]]⟩
                  · (conv=>whnf);obtain rfl:=Option.some.inj hx4;exact ⟨_,rfl,leX [.f [6001,6002,6003,6004,6005]]⟩
                · (conv=>whnf);refine andI hx4 (fun _ hx4=>?_) (fun _ hx4=>?_)
                  · (conv=>whnf);refine andI hx4 (fun _ hx4=>?_) (fun _ hx4=>?_)
                    · (conv=>whnf);obtain ⟨x38,hx38,hx4⟩:=bd_some hx4;obtain ⟨g39,hx4⟩:=gd_some hx4;obtain ⟨g40,hx4⟩:=gd_some hx4;refine draw_t tOk [.e 5 [(9000,.box 97 [.d (slD encByte a0.b),.d (.int .i64 x7.2.p)])] (.d (.int .i64 x38.1)) [] [(9000,.box 97 [.d (slD encByte a0.b),.d (.int .i64 x38.2.p)])]] 10 [] [0,1,0,0,0,16,56,120,255,511] [1023] [9000] ?_;(conv=>whnf);refine bldS (enc:=encInt) ([-1,0,3,4]:List Int) ?_;(conv=>whnf);refine And.intro (eD [(9000,9000)] 0 (spec_l81Rd_pick_c hx38)) ?_;(conv=>whnf);refine And.intro g39 ?_;clear g39;(conv=>whnf);refine And.intro g40 ?_;clear g40;(conv=>whnf);refine And.intro (by kernel_rfl) ?_;(conv=>whnf);obtain ⟨x41,hx41,hlx41,hx4⟩:=bd_set hx4;refine setS (enc:=TreeSlot.enc) hx41 ?_;(conv=>whnf);obtain rfl:=Option.some.inj hx4;exact ⟨_,rfl,leX [.f [6001,6002,6003,6004,6005]]⟩
                    · (conv=>whnf);refine bldS (enc:=TreeSlot.enc) ([(⟨(⟨0,0,0⟩:TreeVector),0⟩:TreeSlot)]:List TreeSlot) ?_;(conv=>whnf);refine gdI hx4 (fun hx4=>?_);refine appS (enc:=TreeSlot.enc) (xs:=x1.AtB) (ys:=([(⟨(⟨0,0,0⟩:TreeVector),0⟩:TreeSlot)]:List TreeSlot)) ?_;(conv=>whnf);obtain rfl:=Option.some.inj hx4;exact ⟨_,rfl,leX [.f [6001,6002,6003,6004,6005]]⟩
                  · (conv=>whnf);obtain ⟨x43,hx43,hx4⟩:=bd_some hx4;obtain ⟨x44,hx44,hx4⟩:=bd_some hx4;obtain ⟨x45,hx45,hx4⟩:=bd_some hx4;obtain ⟨g46,hx4⟩:=gd_some hx4;refine drawFz [6001,6002,6003,6004,6005] ?_;(conv=>whnf);refine draw_t tOk [.e 5 [(9000,.box 97 [.d (slD encByte a0.b),.d (.int .i64 x7.2.p)])] (.d (.int .i64 x43.1)) [] [(9000,.box 97 [.d (slD encByte a0.b),.d (.int .i64 x43.2.p)])],.e 8 [(9000,.box 97 [.d (slD encByte a0.b),.d (.int .i64 x43.2.p)])] (.d (.int .i64 x44.1)) [] [(9000,.box 97 [.d (slD encByte a0.b),.d (.int .i64 x44.2.p)])],.e 12 [(9000,.box 97 [.d (slD encByte a0.b),.d (.int .i64 x44.2.p)]),(6006,.arr 76 5 x1.Radio.length (rows TreeWord.enc x1.Radio))] (.agg [.d (.int .i64 x45.1.Root),.d (.int .i64 x45.1.Cost),.d (.int .i64 x45.1.Age)]) [] [(9000,.box 97 [.d (slD encByte a0.b),.d (.int .i64 x45.2.1.p)]),(6006,.arr 76 5 x1.Radio.length (rows TreeWord.enc x45.2.2.Radio))]] 15 [] [0,0,2,6,14,31,63,0,191,447,0,0,3519,8191,0] [32767] [9000,6006] ?_;(conv=>whnf);refine And.intro (eD [(9000,9000)] 0 (spec_l81Rd_pick_c hx43)) ?_;(conv=>whnf);refine And.intro (eD [(9000,9000)] 0 (spec_l81Rd_pick_c hx44)) ?_;(conv=>whnf);refine And.intro (eD [(9000,9000),(9001,6006)] 0 (spec_l85Vector_r15_c hx45)) ?_;(conv=>whnf);refine And.intro (by kernel_rfl) ?_;(conv=>whnf);refine bldS (enc:=TreeWord.enc) ([(⟨IntKind.i64.wrap (x43.1 - 1),IntKind.i64.wrap (x44.1 - 1),x45.1⟩:TreeWord)]:List TreeWord) ?_;(conv=>whnf);refine gdI hx4 (fun hx4=>?_);refine appS (enc:=TreeWord.enc) (xs:=x45.2.2.Radio) (ys:=([(⟨IntKind.i64.wrap (x43.1 - 1),IntKind.i64.wrap (x44.1 - 1),x45.1⟩:TreeWord)]:List TreeWord)) ?_;(conv=>whnf);obtain ⟨x50,hx50,hx4⟩:=bd_some hx4;refine loop_m tOk hx50 (fun s47=>⟨0,223,[(0,.ref 9000 0 0),(3,.ref 3 0 0),(4,.ref 4 0 0)],[],[(6006,.arr 76 5 s47.1.length (rows TreeWord.enc s47.1)),(4,.box 29 [.d (.nil),.d (.nil),.d (.nil),.d (.nil),.d (.nil),.d (.nil)]),(3,.box 29 [.d (slD TreeBridge.enc x1.Bridges),.d (slD TreeLink.enc x1.Links),.d (slD encInt x1.Down),.d (slD TreeSlot.enc x1.AtA),.d (slD TreeSlot.enc x1.AtB),.osl 6006 0 s47.1.length]),(9000,.box 97 [.d (slD encByte a0.b),.d (.int .i64 s47.2)])],[⟨[(0,.ref 9000 0 0)],[]⟩]⟩) ?_ ?_
                    · exact leX []
                    · clear hx50;intro s47 y48 g49 hy48;(conv=>whnf);refine seq_in tOk ?_;(conv=>whnf);obtain ⟨x51,hx51,g49⟩:=bd_some g49;refine cE [(9000,9000)] 0 (spec_l81Rd_pick_c hx51) ?_;(conv=>whnf);refine andI g49 (fun _ g49=>?_) (fun _ g49=>?_)
                      · (conv=>whnf);obtain ⟨g52,g49⟩:=gd_some g49;refine draw_u tOk [] 7 [] [0,1,0,4,12,28,60] [127,255,511] ?_;(conv=>whnf);refine And.intro g52 ?_;clear g52;(conv=>whnf);refine bldS (enc:=TreeWord.enc) ([{ (s47.1.getD 0 default) with Vector:=((s47.1.getD 0 default).Vector) }]:List TreeWord) ?_;(conv=>whnf);refine And.intro (by kernel_rfl) ?_;(conv=>whnf);refine gdI g49 (fun g49=>?_);refine appS (enc:=TreeWord.enc) (xs:=s47.1) (ys:=([{ (s47.1.getD 0 default) with Vector:=((s47.1.getD 0 default).Vector) }]:List TreeWord)) ?_;(conv=>whnf);obtain rfl:=Option.some.inj g49;exact ⟨_,rfl,leX []⟩
                      · (conv=>whnf);obtain rfl:=Option.some.inj g49;obtain rfl:=hy48 _ rfl;obtain rfl:=Option.some.inj hx4;exact ⟨_,rfl,leX []⟩
  · rintro _ rfl;(conv=>whnf);obtain rfl:=Option.some.inj h;exact lfE [.s [(5001,6006),(6006,5001)]]
noncomputable def spec_l85Any_m (a0:l81Rd):Option (TreeWorld × l81Rd) :=
 bd (spec_l85World_m a0) fun x1 =>
 bd (spec_l81Rd_pick_m (⟨a0.b,x1.2.p⟩:l81Rd) 24) fun x2 =>
(if (x2.1 == 0) = true then
 bd (spec_l85Spoil_m (⟨a0.b,x2.2.p⟩:l81Rd) x1.1) fun x3 =>
 some (x3.1,(⟨a0.b,x3.2.p⟩:l81Rd))
else
 some (x1.1,(⟨a0.b,x2.2.p⟩:l81Rd)))
theorem spec_l85Any_c {a0:l81Rd} {r:TreeWorld × l81Rd} (h:spec_l85Any_m a0 = some r):EffC Try.prog 32 [.ref 9000 0 0] [(9000,.box 97 [.d (slD encByte a0.b),.d (.int .i64 a0.p)])] (.agg [.d (slD TreeBridge.enc r.1.Bridges),.d (slD TreeLink.enc r.1.Links),.d (slD encInt r.1.Down),.d (slD TreeSlot.enc r.1.AtA),.d (slD TreeSlot.enc r.1.AtB),.osl 5001 0 r.1.Radio.length]) [(9000,.box 97 [.d (slD encByte a0.b),.d (.int .i64 r.2.p)]),(5001,.arr 76 5 r.1.Radio.length (rows TreeWord.enc r.1.Radio))]:=by
  refine effC_x tOk (fn:=Try.f32) (c:=codeOf Try.f32) rfl rfl ?_;unfold spec_l85Any_m at h;(conv=>whnf);obtain ⟨x1,hx1,h⟩:=bd_some h;refine cE [(9000,9000)] 1000 (spec_l85World_c hx1) ?_;(conv=>whnf);refine seq_in tOk ?_;(conv=>whnf);obtain ⟨x2,hx2,h⟩:=bd_some h;refine cE [(9000,9000)] 0 (spec_l81Rd_pick_c hx2) ?_;(conv=>whnf);refine andI h (fun _ h=>?_) (fun _ h=>?_)
  · (conv=>whnf);obtain ⟨x3,hx3,h⟩:=bd_some h;refine callFz [6001] ?_;(conv=>whnf);refine cE [(9000,9000)] 1000 (spec_l85Spoil_c hx3) ?_;(conv=>whnf);obtain rfl:=Option.some.inj h;exact lfE [.s [(5001,6001),(6001,5001)]]
  · (conv=>whnf);obtain rfl:=Option.some.inj h;exact lfE [.s [(5001,6001),(6001,5001)]]
noncomputable def spec_DrawTreeBest_m (a0:(List Int)):Option (TreeWorld) :=
 bd (spec_l81Open_m a0) fun x1 =>
 bd (spec_l85Any_m x1) fun x2 =>
 some x2.1
theorem spec_DrawTreeBest_c {a0:(List Int)} {r:TreeWorld} (h:spec_DrawTreeBest_m a0 = some r):EffC Try.prog 8 [.d (slD encByte a0)] [] (.agg [.d (slD TreeBridge.enc r.Bridges),.d (slD TreeLink.enc r.Links),.d (slD encInt r.Down),.d (slD TreeSlot.enc r.AtA),.d (slD TreeSlot.enc r.AtB),.osl 5001 0 r.Radio.length]) [(5001,.arr 76 5 r.Radio.length (rows TreeWord.enc r.Radio))]:=by
  refine effC_x tOk (fn:=Try.f8) (c:=codeOf Try.f8) rfl rfl ?_;unfold spec_DrawTreeBest_m at h;(conv=>whnf);obtain ⟨x1,hx1,h⟩:=bd_some h;refine cE [] 1000 (spec_l81Open_c hx1) ?_;(conv=>whnf);obtain ⟨x2,hx2,h⟩:=bd_some h;refine cE [(9000,6001)] 2000 (spec_l85Any_c hx2) ?_;(conv=>whnf);obtain rfl:=Option.some.inj h;exact lfE [.s [(5001,7001),(7001,5001)]]
noncomputable def impl_within_m (a0:Int) (a1:Int) (a2:Int):Option (Bool) :=
 some ((decide (a1≤a0)) && (decide (a0≤a2)))
theorem impl_within_c {a0:Int} {a1:Int} {a2:Int} {r:Bool} (h:impl_within_m a0 a1 a2 = some r):PureC Try.prog 59 [.d (.int .i64 a0),.d (.int .i64 a1),.d (.int .i64 a2)] (.d (.bool r)) []:=by
  refine pureC_x tOk (fn:=Try.f59) (c:=codeOf Try.f59) rfl rfl ?_;unfold impl_within_m at h;(conv=>whnf);obtain rfl:=Option.some.inj h;exact lfP []
noncomputable def impl_TreeLinksOk_m (a0:Int) (a1:(List TreeLink)):Option (Bool) :=
 bd (lp (σ:=Int) (β:=(Unit ⊕ Unit)) (fun s1 =>
(if (decide (s1<((a1.length:Nat):Int))) = true then
 gd ((0:Int)≤s1∧s1<((a1.length:Nat):Int)) <|
 bd (gcall ((((decide (((a1.getD s1.toNat default).A)<0)) || (decide (((a1.getD s1.toNat default).A) ≥ ((a1.getD s1.toNat default).B)))) || (decide (((a1.getD s1.toNat default).B) ≥ a0))) = false) (impl_within_m ((a1.getD s1.toNat default).Cost) 1 50)) fun x6 =>
(if ((((decide (((a1.getD s1.toNat default).A)<0)) || (decide (((a1.getD s1.toNat default).A) ≥ ((a1.getD s1.toNat default).B)))) || (decide (((a1.getD s1.toNat default).B) ≥ a0))) || (!x6)) = true then
 some (.inr (.inl ()))
else
 some (.inl (IntKind.i64.wrap (s1+1))))
else
 some (.inr (.inr ())))) 0) fun x4 =>
(match x4 with
| .inl d7 =>
 some false
| .inr d8 =>
 bd (impl_within_m a0 1 8) fun x9 =>
 some (x9 && (decide (((a1.length:Nat):Int)≤12))))
theorem impl_TreeLinksOk_c {a0:Int} {a1:(List TreeLink)} {r:Bool} (h:impl_TreeLinksOk_m a0 a1 = some r):PureC Try.prog 53 [.d (.int .i64 a0),.d (slD TreeLink.enc a1)] (.d (.bool r)) []:=by
  refine pureC_x tOk (fn:=Try.f53) (c:=codeOf Try.f53) rfl rfl ?_;unfold impl_TreeLinksOk_m at h;(conv=>whnf);refine seq_in tOk ?_;(conv=>whnf);obtain ⟨x4,hx4,h⟩:=bd_some h;refine loop_m tOk hx4 (fun s1=>⟨0,43,[(0,.d (.int .i64 a0)),(1,.d (slD TreeLink.enc a1)),(7,.d (slD TreeLink.enc a1)),(8,.d (.int .i64 ((a1.length:Nat):Int))),(9,.d (.int .i64 s1))],[],[],[]⟩) ?_ ?_
  · exact leX []
  · clear hx4;intro s1 y2 g3 hy2;(conv=>whnf);refine seq_in tOk ?_;(conv=>whnf);refine andI g3 (fun _ g3=>?_) (fun _ g3=>?_)
    · (conv=>whnf);refine seq_in tOk ?_;(conv=>whnf);refine gdI g3 (fun g3=>?_);(conv=>whnf);obtain ⟨x6,hx6,g3⟩:=bd_some g3;refine callG_m rfl rfl rfl rfl rfl rfl (by intro c0; exact impl_within_c (gcall_some hx6 c0)) ?_;(conv=>whnf);refine andI g3 (fun _ g3=>?_) (fun _ g3=>?_)
      · (conv=>whnf);obtain rfl:=Option.some.inj g3;obtain rfl:=hy2 _ rfl;obtain rfl:=Option.some.inj h;exact lfP []
      · (conv=>whnf);obtain rfl:=Option.some.inj g3;exact ⟨_,rfl,leX []⟩
    · (conv=>whnf);obtain rfl:=Option.some.inj g3;obtain rfl:=hy2 _ rfl;obtain ⟨x9,hx9,h⟩:=bd_some h;refine cC 0 (impl_within_c hx9) ?_;clear hx9;(conv=>whnf);obtain rfl:=Option.some.inj h;exact lfP []
noncomputable def impl_TreeWorld_bridgesOk_1_m (a0:TreeBridge) (a1:TreeBridge):Option (Bool) :=
 some (a0.Id == a1.Id)
theorem impl_TreeWorld_bridgesOk_1_c {a0:TreeBridge} {a1:TreeBridge} {r:Bool} (h:impl_TreeWorld_bridgesOk_1_m a0 a1 = some r):PureC Try.prog 105 [.agg [.d (.int .i64 a0.Id),.d (.bool a0.Up),.d (.int .i64 a0.Mind.Vector.Root),.d (.int .i64 a0.Mind.Vector.Cost),.d (.int .i64 a0.Mind.Vector.Age),.d (.int .i64 a0.Mind.Link)],.rp [.int .i64 a1.Id,.bool a1.Up,.int .i64 a1.Mind.Vector.Root,.int .i64 a1.Mind.Vector.Cost,.int .i64 a1.Mind.Vector.Age,.int .i64 a1.Mind.Link]] (.d (.bool r)) []:=by
  refine pureC_x tOk (fn:=Try.f105) (c:=codeOf Try.f105) rfl rfl ?_;unfold impl_TreeWorld_bridgesOk_1_m at h;(conv=>whnf);obtain rfl:=Option.some.inj h;exact lfP []
noncomputable def slices_IndexFunc_TreeBridge_TreeBridge_impl_TreeWorld_bridgesOk_1_m (a0:(List TreeBridge)) (a1c0:TreeBridge):Option (Int) :=
 bd (lp (σ:=Int) (β:=(Int ⊕ Unit)) (fun s1 =>
(if (decide (s1<((a0.length:Nat):Int))) = true then
 gd ((0:Int)≤s1∧s1<((a0.length:Nat):Int)) <|
 bd (impl_TreeWorld_bridgesOk_1_m ({ (a0.getD s1.toNat default) with Mind:=(⟨(((a0.getD s1.toNat default).Mind).Vector),((a0.getD s1.toNat default).Mind).Link⟩:TreeMind) }) a1c0) fun x6 =>
(if x6 = true then
 some (.inr (.inl s1))
else
 some (.inl (IntKind.i64.wrap (s1+1))))
else
 some (.inr (.inr ())))) 0) fun x4 =>
(match x4 with
| .inl d7 =>
 some d7
| .inr d8 =>
 some (-1))
theorem slices_IndexFunc_TreeBridge_TreeBridge_impl_TreeWorld_bridgesOk_1_c {a0:(List TreeBridge)} {a1c0:TreeBridge} {r:Int} (h:slices_IndexFunc_TreeBridge_TreeBridge_impl_TreeWorld_bridgesOk_1_m a0 a1c0 = some r):PureC Try.prog 133 [.d (slD TreeBridge.enc a0),.fn 105 [.rp [.int .i64 a1c0.Id,.bool a1c0.Up,.int .i64 a1c0.Mind.Vector.Root,.int .i64 a1c0.Mind.Vector.Cost,.int .i64 a1c0.Mind.Vector.Age,.int .i64 a1c0.Mind.Link]]] (.d (.int .i64 r)) []:=by
  refine pureC_x tOk (fn:=Try.f133) (c:=codeOf Try.f133) rfl rfl ?_;unfold slices_IndexFunc_TreeBridge_TreeBridge_impl_TreeWorld_bridgesOk_1_m at h;(conv=>whnf);refine seq_in tOk ?_;(conv=>whnf);obtain ⟨x4,hx4,h⟩:=bd_some h;refine loop_m tOk hx4 (fun s1=>⟨0,19,[(0,.d (slD TreeBridge.enc a0)),(1,.fn 105 [.rp [.int .i64 a1c0.Id,.bool a1c0.Up,.int .i64 a1c0.Mind.Vector.Root,.int .i64 a1c0.Mind.Vector.Cost,.int .i64 a1c0.Mind.Vector.Age,.int .i64 a1c0.Mind.Link]]),(7,.d (.int .i64 ((a0.length:Nat):Int))),(8,.d (.int .i64 s1))],[],[],[]⟩) ?_ ?_
  · exact leX []
  · clear hx4;intro s1 y2 g3 hy2;(conv=>whnf);refine seq_in tOk ?_;(conv=>whnf);refine andI g3 (fun _ g3=>?_) (fun _ g3=>?_)
    · (conv=>whnf);refine seq_in tOk ?_;(conv=>whnf);refine gdI g3 (fun g3=>?_);(conv=>whnf);obtain ⟨x6,hx6,g3⟩:=bd_some g3;refine cC 0 (impl_TreeWorld_bridgesOk_1_c hx6) ?_;clear hx6;(conv=>whnf);refine andI g3 (fun _ g3=>?_) (fun _ g3=>?_)
      · (conv=>whnf);obtain rfl:=Option.some.inj g3;obtain rfl:=hy2 _ rfl;obtain rfl:=Option.some.inj h;exact lfP []
      · (conv=>whnf);obtain rfl:=Option.some.inj g3;exact ⟨_,rfl,leX []⟩
    · (conv=>whnf);obtain rfl:=Option.some.inj g3;obtain rfl:=hy2 _ rfl;obtain rfl:=Option.some.inj h;exact lfP []
noncomputable def slices_ContainsFunc_TreeBridge_TreeBridge_impl_TreeWorld_bridgesOk_1_m (a0:(List TreeBridge)) (a1c0:TreeBridge):Option (Bool) :=
 bd (slices_IndexFunc_TreeBridge_TreeBridge_impl_TreeWorld_bridgesOk_1_m a0 a1c0) fun x1 =>
 some (decide (x1 ≥ 0))
theorem slices_ContainsFunc_TreeBridge_TreeBridge_impl_TreeWorld_bridgesOk_1_c {a0:(List TreeBridge)} {a1c0:TreeBridge} {r:Bool} (h:slices_ContainsFunc_TreeBridge_TreeBridge_impl_TreeWorld_bridgesOk_1_m a0 a1c0 = some r):PureC Try.prog 104 [.d (slD TreeBridge.enc a0),.fn 105 [.rp [.int .i64 a1c0.Id,.bool a1c0.Up,.int .i64 a1c0.Mind.Vector.Root,.int .i64 a1c0.Mind.Vector.Cost,.int .i64 a1c0.Mind.Vector.Age,.int .i64 a1c0.Mind.Link]]] (.d (.bool r)) []:=by
  refine pureC_x tOk (fn:=Try.f104) (c:=codeOf Try.f104) rfl rfl ?_;unfold slices_ContainsFunc_TreeBridge_TreeBridge_impl_TreeWorld_bridgesOk_1_m at h;(conv=>whnf);obtain ⟨x1,hx1,h⟩:=bd_some h;refine cC 0 (slices_IndexFunc_TreeBridge_TreeBridge_impl_TreeWorld_bridgesOk_1_c hx1) ?_;clear hx1;(conv=>whnf);obtain rfl:=Option.some.inj h;exact lfP []
noncomputable def impl_TreeVector_nothing_m (a0:TreeVector):Option (Bool) :=
 some ((a0.Root == 0) && ((a0.Cost == 0) && ((a0.Age == 0) && true)))
theorem impl_TreeVector_nothing_c {a0:TreeVector} {r:Bool} (h:impl_TreeVector_nothing_m a0 = some r):PureC Try.prog 61 [.agg [.d (.int .i64 a0.Root),.d (.int .i64 a0.Cost),.d (.int .i64 a0.Age)]] (.d (.bool r)) []:=by
  refine pureC_x tOk (fn:=Try.f61) (c:=codeOf Try.f61) rfl rfl ?_;unfold impl_TreeVector_nothing_m at h;(conv=>whnf);obtain rfl:=Option.some.inj h;exact lfP []
noncomputable def impl_TreeVectorOk_m (a0:TreeVector):Option (Bool) :=
 bd (impl_TreeVector_nothing_m a0) fun x1 =>
 bd (gcall (x1 = false) (impl_within_m a0.Root 1 1000)) fun x2 =>
 bd (gcall (x2 = true∧x1 = false) (impl_within_m a0.Cost 0 1000)) fun x3 =>
 bd (gcall ((x2 && x3) = true∧x1 = false) (impl_within_m a0.Age 0 10)) fun x4 =>
 some (x1 || ((x2 && x3) && x4))
theorem impl_TreeVectorOk_c {a0:TreeVector} {r:Bool} (h:impl_TreeVectorOk_m a0 = some r):PureC Try.prog 60 [.agg [.d (.int .i64 a0.Root),.d (.int .i64 a0.Cost),.d (.int .i64 a0.Age)]] (.d (.bool r)) []:=by
  refine pureC_x tOk (fn:=Try.f60) (c:=codeOf Try.f60) rfl rfl ?_;unfold impl_TreeVectorOk_m at h;(conv=>whnf);obtain ⟨x1,hx1,h⟩:=bd_some h;refine cC 0 (impl_TreeVector_nothing_c hx1) ?_;clear hx1;(conv=>whnf);obtain ⟨x2,hx2,h⟩:=bd_some h;refine callG_m rfl rfl rfl rfl rfl rfl (by intro c0; exact impl_within_c (gcall_some hx2 c0)) ?_;(conv=>whnf);obtain ⟨x3,hx3,h⟩:=bd_some h;refine callG_m rfl rfl rfl rfl rfl rfl (by intro c0 c1; exact impl_within_c (gcall_some hx3 ⟨c0,c1⟩)) ?_;(conv=>whnf);obtain ⟨x4,hx4,h⟩:=bd_some h;refine callG_m rfl rfl rfl rfl rfl rfl (by intro c0 c1; exact impl_within_c (gcall_some hx4 ⟨c0,c1⟩)) ?_;(conv=>whnf);obtain rfl:=Option.some.inj h;exact lfP []
noncomputable def impl_TreeWorld_bridgesOk_m (a0:TreeWorld):Option (Bool) :=
 bd (lp (σ:=Int) (β:=(Unit ⊕ Unit)) (fun s1 =>
(if (decide (s1<((a0.Bridges.length:Nat):Int))) = true then
 gd ((0:Int)≤s1∧s1<((a0.Bridges.length:Nat):Int)) <|
 bd (impl_within_m ((a0.Bridges.getD s1.toNat default).Id) 1 1000) fun x6 =>
 gd ((!x6) = false → ((0:Int)≤(0:Int)∧(0:Int)≤s1∧s1≤((a0.Bridges.length:Nat):Int))) <|
 bd (gcall ((!x6) = false) (slices_ContainsFunc_TreeBridge_TreeBridge_impl_TreeWorld_bridgesOk_1_m (a0.Bridges.take s1.toNat) ({ (a0.Bridges.getD s1.toNat default) with Mind:=(⟨(((a0.Bridges.getD s1.toNat default).Mind).Vector),((a0.Bridges.getD s1.toNat default).Mind).Link⟩:TreeMind) }))) fun x8 =>
(if ((!x6) || x8) = true then
 some (.inr (.inl ()))
else
 bd (gcall ((a0.Bridges.getD s1.toNat default).Up = true) (impl_TreeVectorOk_m (((a0.Bridges.getD s1.toNat default).Mind).Vector))) fun x9 =>
 bd (gcall ((!x9) = false∧(a0.Bridges.getD s1.toNat default).Up = true) (impl_TreeVector_nothing_m (((a0.Bridges.getD s1.toNat default).Mind).Vector))) fun x10 =>
 bd (gcall (((!x9) || x10) = false∧(a0.Bridges.getD s1.toNat default).Up = true) (impl_within_m (((a0.Bridges.getD s1.toNat default).Mind).Link) (-1) (IntKind.i64.wrap (((a0.Links.length:Nat):Int) - 1)))) fun x11 =>
(if (((a0.Bridges.getD s1.toNat default).Up && (((!x9) || x10) || (!x11))) || ((!((a0.Bridges.getD s1.toNat default).Up)) && (!(((((((a0.Bridges.getD s1.toNat default).Mind).Vector).Root) == 0) && ((((((a0.Bridges.getD s1.toNat default).Mind).Vector).Cost) == 0) && ((((((a0.Bridges.getD s1.toNat default).Mind).Vector).Age) == 0) && true))) && (((((a0.Bridges.getD s1.toNat default).Mind).Link) == 0) && true))))) = true then
 some (.inr (.inl ()))
else
 some (.inl (IntKind.i64.wrap (s1+1)))))
else
 some (.inr (.inr ())))) 0) fun x4 =>
(match x4 with
| .inl d12 =>
 some false
| .inr d13 =>
 some true)
theorem impl_TreeWorld_bridgesOk_c {a0:TreeWorld} {r:Bool} (h:impl_TreeWorld_bridgesOk_m a0 = some r):PureC Try.prog 54 [.rp [slD TreeBridge.enc a0.Bridges,slD TreeLink.enc a0.Links,slD encInt a0.Down,slD TreeSlot.enc a0.AtA,slD TreeSlot.enc a0.AtB,slD TreeWord.enc a0.Radio]] (.d (.bool r)) []:=by
  refine pureC_x tOk (fn:=Try.f54) (c:=codeOf Try.f54) rfl rfl ?_;unfold impl_TreeWorld_bridgesOk_m at h;(conv=>whnf);refine seq_in tOk ?_;(conv=>whnf);obtain ⟨x4,hx4,h⟩:=bd_some h;refine loop_m tOk hx4 (fun s1=>⟨0,69,[(0,.rp [slD TreeBridge.enc a0.Bridges,slD TreeLink.enc a0.Links,slD encInt a0.Down,slD TreeSlot.enc a0.AtA,slD TreeSlot.enc a0.AtB,slD TreeWord.enc a0.Radio]),(9,.d (slD TreeBridge.enc a0.Bridges)),(10,.d (.int .i64 ((a0.Bridges.length:Nat):Int))),(11,.d (.int .i64 s1))],[],[],[]⟩) ?_ ?_
  · exact leX []
  · clear hx4;intro s1 y2 g3 hy2;(conv=>whnf);refine seq_in tOk ?_;(conv=>whnf);refine andI g3 (fun _ g3=>?_) (fun _ g3=>?_)
    · (conv=>whnf);refine seq_in tOk ?_;(conv=>whnf);refine gdI g3 (fun g3=>?_);(conv=>whnf);refine seq_in tOk ?_;(conv=>whnf);obtain ⟨x6,hx6,g3⟩:=bd_some g3;refine cC 0 (impl_within_c hx6) ?_;clear hx6;(conv=>whnf);obtain ⟨g7,g3⟩:=gd_some g3;refine And.intro (by intro c0; exact ⟨g7 c0,.inr rfl⟩) ?_;(conv=>whnf);obtain ⟨x8,hx8,g3⟩:=bd_some g3;refine callG_m rfl rfl rfl rfl rfl rfl (by intro c0; have q0:=g7 c0; exact (slices_ContainsFunc_TreeBridge_TreeBridge_impl_TreeWorld_bridgesOk_1_c (gcall_some hx8 c0)).le argA) ?_;(conv=>whnf);refine andI g3 (fun _ g3=>?_) (fun _ g3=>?_)
      · (conv=>whnf);obtain rfl:=Option.some.inj g3;obtain rfl:=hy2 _ rfl;obtain rfl:=Option.some.inj h;exact lfP []
      · (conv=>whnf);obtain ⟨x9,hx9,g3⟩:=bd_some g3;obtain ⟨x10,hx10,g3⟩:=bd_some g3;obtain ⟨x11,hx11,g3⟩:=bd_some g3;refine draw_u tOk [.u 4 0 (.d (.bool x9)) [],.u 8 0 (.d (.bool x10)) [],.u 20 0 (.d (.bool x11)) []] 35 [] [0,1,3,7,15,31,63,127,255,511,1023,2047,4095,8191,2047,18431,51199,116735,247807,509951,1048575,2097151,4194303,8388607,16777215,33554431,67108863,134217727,268435455,536870911,1073741823,536870911,4294967295,8589934591,17179869183] [] ?_;(conv=>whnf);refine And.intro (callDG_if rfl rfl rfl rfl (by intro c0; exact impl_TreeVectorOk_c (gcall_some hx9 c0))) ?_;(conv=>whnf);refine And.intro (callDG_if rfl rfl rfl rfl (by intro c0 c1; exact impl_TreeVector_nothing_c (gcall_some hx10 ⟨c0,c1⟩))) ?_;(conv=>whnf);refine And.intro (callDG_if rfl rfl rfl rfl (by intro c0 c1; exact impl_within_c (gcall_some hx11 ⟨c0,c1⟩))) ?_;(conv=>whnf);refine And.intro (by kernel_rfl) ?_;(conv=>whnf);refine andI g3 (fun _ g3=>?_) (fun _ g3=>?_)
        · (conv=>whnf);obtain rfl:=Option.some.inj g3;obtain rfl:=hy2 _ rfl;obtain rfl:=Option.some.inj h;exact lfP []
        · (conv=>whnf);obtain rfl:=Option.some.inj g3;exact ⟨_,rfl,leX []⟩
    · (conv=>whnf);obtain rfl:=Option.some.inj g3;obtain rfl:=hy2 _ rfl;obtain rfl:=Option.some.inj h;exact lfP []
noncomputable def impl_TreeWorld_isLink_m (a0:TreeWorld) (a1:Int):Option (Bool) :=
 bd (impl_within_m a1 0 (IntKind.i64.wrap (((a0.Links.length:Nat):Int) - 1))) fun x1 =>
 some x1
theorem impl_TreeWorld_isLink_c {a0:TreeWorld} {a1:Int} {r:Bool} (h:impl_TreeWorld_isLink_m a0 a1 = some r):PureC Try.prog 55 [.rp [slD TreeBridge.enc a0.Bridges,slD TreeLink.enc a0.Links,slD encInt a0.Down,slD TreeSlot.enc a0.AtA,slD TreeSlot.enc a0.AtB,slD TreeWord.enc a0.Radio],.d (.int .i64 a1)] (.d (.bool r)) []:=by
  refine pureC_x tOk (fn:=Try.f55) (c:=codeOf Try.f55) rfl rfl ?_;unfold impl_TreeWorld_isLink_m at h;(conv=>whnf);obtain ⟨x1,hx1,h⟩:=bd_some h;refine cC 0 (impl_within_c hx1) ?_;clear hx1;(conv=>whnf);obtain rfl:=Option.some.inj h;exact lfP []
noncomputable def impl_TreeWorld_slot_m (a0:TreeWorld) (a1:Int) (a2:Int):Option (TreeSlot) :=
(if (a2 == 0) = true then
 gd ((0:Int)≤a1∧a1<((a0.AtA.length:Nat):Int)) <|
 some (⟨((a0.AtA.getD a1.toNat default).Vector),(a0.AtA.getD a1.toNat default).Left⟩:TreeSlot)
else
 gd ((0:Int)≤a1∧a1<((a0.AtB.length:Nat):Int)) <|
 some (⟨((a0.AtB.getD a1.toNat default).Vector),(a0.AtB.getD a1.toNat default).Left⟩:TreeSlot))
theorem impl_TreeWorld_slot_c {a0:TreeWorld} {a1:Int} {a2:Int} {r:TreeSlot} (h:impl_TreeWorld_slot_m a0 a1 a2 = some r):EffC Try.prog 93 [.rp [slD TreeBridge.enc a0.Bridges,slD TreeLink.enc a0.Links,slD encInt a0.Down,slD TreeSlot.enc a0.AtA,slD TreeSlot.enc a0.AtB,slD TreeWord.enc a0.Radio],.d (.int .i64 a1),.d (.int .i64 a2)] [] (.rp [.int .i64 r.Vector.Root,.int .i64 r.Vector.Cost,.int .i64 r.Vector.Age,.int .i64 r.Left]) []:=by
  refine effC_x tOk (fn:=Try.f93) (c:=codeOf Try.f93) rfl rfl ?_;unfold impl_TreeWorld_slot_m at h;(conv=>whnf);refine seq_in tOk ?_;(conv=>whnf);refine andI h (fun _ h=>?_) (fun _ h=>?_)
  · (conv=>whnf);refine gdI h (fun h=>?_);(conv=>whnf);obtain rfl:=Option.some.inj h;exact lfE []
  · (conv=>whnf);refine gdI h (fun h=>?_);(conv=>whnf);obtain rfl:=Option.some.inj h;exact lfE []
noncomputable def slices_Index_int_int_m (a0:(List Int)) (a1:Int):Option (Int) :=
 bd (lp (σ:=Int) (β:=(Int ⊕ Unit)) (fun s1 =>
(if (decide (s1<((a0.length:Nat):Int))) = true then
 gd ((0:Int)≤s1∧s1<((a0.length:Nat):Int)) <|
(if (a1 == (a0.getD s1.toNat default)) = true then
 some (.inr (.inl s1))
else
 some (.inl (IntKind.i64.wrap (s1+1))))
else
 some (.inr (.inr ())))) 0) fun x4 =>
(match x4 with
| .inl d6 =>
 some d6
| .inr d7 =>
 some (-1))
theorem slices_Index_int_int_c {a0:(List Int)} {a1:Int} {r:Int} (h:slices_Index_int_int_m a0 a1 = some r):PureC Try.prog 140 [.d (slD encInt a0),.d (.int .i64 a1)] (.d (.int .i64 r)) []:=by
  refine pureC_x tOk (fn:=Try.f140) (c:=codeOf Try.f140) rfl rfl ?_;unfold slices_Index_int_int_m at h;(conv=>whnf);refine seq_in tOk ?_;(conv=>whnf);obtain ⟨x4,hx4,h⟩:=bd_some h;refine loop_m tOk hx4 (fun s1=>⟨0,19,[(0,.d (slD encInt a0)),(1,.d (.int .i64 a1)),(7,.d (.int .i64 ((a0.length:Nat):Int))),(8,.d (.int .i64 s1))],[],[],[]⟩) ?_ ?_
  · exact leX []
  · clear hx4;intro s1 y2 g3 hy2;(conv=>whnf);refine seq_in tOk ?_;(conv=>whnf);refine andI g3 (fun _ g3=>?_) (fun _ g3=>?_)
    · (conv=>whnf);refine seq_in tOk ?_;(conv=>whnf);refine gdI g3 (fun g3=>?_);(conv=>whnf);refine andI g3 (fun _ g3=>?_) (fun _ g3=>?_)
      · (conv=>whnf);obtain rfl:=Option.some.inj g3;obtain rfl:=hy2 _ rfl;obtain rfl:=Option.some.inj h;exact lfP []
      · (conv=>whnf);obtain rfl:=Option.some.inj g3;exact ⟨_,rfl,leX []⟩
    · (conv=>whnf);obtain rfl:=Option.some.inj g3;obtain rfl:=hy2 _ rfl;obtain rfl:=Option.some.inj h;exact lfP []
noncomputable def slices_Contains_int_int_m (a0:(List Int)) (a1:Int):Option (Bool) :=
 bd (slices_Index_int_int_m a0 a1) fun x1 =>
 some (decide (x1 ≥ 0))
theorem slices_Contains_int_int_c {a0:(List Int)} {a1:Int} {r:Bool} (h:slices_Contains_int_int_m a0 a1 = some r):PureC Try.prog 134 [.d (slD encInt a0),.d (.int .i64 a1)] (.d (.bool r)) []:=by
  refine pureC_x tOk (fn:=Try.f134) (c:=codeOf Try.f134) rfl rfl ?_;unfold slices_Contains_int_int_m at h;(conv=>whnf);obtain ⟨x1,hx1,h⟩:=bd_some h;refine cC 0 (slices_Index_int_int_c hx1) ?_;clear hx1;(conv=>whnf);obtain rfl:=Option.some.inj h;exact lfP []
noncomputable def impl_TreeWorld_isDown_m (a0:TreeWorld) (a1:Int):Option (Bool) :=
 bd (slices_Contains_int_int_m a0.Down a1) fun x1 =>
 some x1
theorem impl_TreeWorld_isDown_c {a0:TreeWorld} {a1:Int} {r:Bool} (h:impl_TreeWorld_isDown_m a0 a1 = some r):PureC Try.prog 106 [.rp [slD TreeBridge.enc a0.Bridges,slD TreeLink.enc a0.Links,slD encInt a0.Down,slD TreeSlot.enc a0.AtA,slD TreeSlot.enc a0.AtB,slD TreeWord.enc a0.Radio],.d (.int .i64 a1)] (.d (.bool r)) []:=by
  refine pureC_x tOk (fn:=Try.f106) (c:=codeOf Try.f106) rfl rfl ?_;unfold impl_TreeWorld_isDown_m at h;(conv=>whnf);obtain ⟨x1,hx1,h⟩:=bd_some h;refine cC 0 (slices_Contains_int_int_c hx1) ?_;clear hx1;(conv=>whnf);obtain rfl:=Option.some.inj h;exact lfP []
noncomputable def impl_TreeWorld_bridgeAt_m (a0:TreeWorld) (a1:Int) (a2:Int):Option (Int) :=
(if (a2 == 0) = true then
 gd ((0:Int)≤a1∧a1<((a0.Links.length:Nat):Int)) <|
 some ((a0.Links.getD a1.toNat default).A)
else
 gd ((0:Int)≤a1∧a1<((a0.Links.length:Nat):Int)) <|
 some ((a0.Links.getD a1.toNat default).B))
theorem impl_TreeWorld_bridgeAt_c {a0:TreeWorld} {a1:Int} {a2:Int} {r:Int} (h:impl_TreeWorld_bridgeAt_m a0 a1 a2 = some r):PureC Try.prog 71 [.rp [slD TreeBridge.enc a0.Bridges,slD TreeLink.enc a0.Links,slD encInt a0.Down,slD TreeSlot.enc a0.AtA,slD TreeSlot.enc a0.AtB,slD TreeWord.enc a0.Radio],.d (.int .i64 a1),.d (.int .i64 a2)] (.d (.int .i64 r)) []:=by
  refine pureC_x tOk (fn:=Try.f71) (c:=codeOf Try.f71) rfl rfl ?_;unfold impl_TreeWorld_bridgeAt_m at h;(conv=>whnf);refine seq_in tOk ?_;(conv=>whnf);refine andI h (fun _ h=>?_) (fun _ h=>?_)
  · (conv=>whnf);refine gdI h (fun h=>?_);(conv=>whnf);obtain rfl:=Option.some.inj h;exact lfP []
  · (conv=>whnf);refine gdI h (fun h=>?_);(conv=>whnf);obtain rfl:=Option.some.inj h;exact lfP []
noncomputable def impl_TreeWorld_slotOk_m (a0:TreeWorld) (a1:Int) (a2:Int):Option (Bool) :=
 bd (impl_TreeWorld_slot_m a0 a1 a2) fun x1 =>
 bd (impl_TreeVectorOk_m x1.Vector) fun x2 =>
 bd (gcall ((!x2) = false) (impl_within_m x1.Left 0 3)) fun x3 =>
 bd (gcall (((!x2) || (!x3)) = false) (impl_TreeVector_nothing_m x1.Vector)) fun x4 =>
(if (((!x2) || (!x3)) || (!((x1.Left == 0) == x4))) = true then
 some false
else
 bd (impl_TreeVector_nothing_m x1.Vector) fun x5 =>
 bd (gcall (x5 = false) (impl_TreeWorld_isDown_m a0 a1)) fun x6 =>
 bd (gcall ((!x6) = true∧x5 = false) (impl_TreeWorld_bridgeAt_m a0 a1 a2)) fun x7 =>
 gd ((!x6) = true → (x5 = false → ((0:Int)≤x7∧x7<((a0.Bridges.length:Nat):Int)))) <|
 some (x5 || ((!x6) && (a0.Bridges.getD x7.toNat default).Up)))
theorem impl_TreeWorld_slotOk_c {a0:TreeWorld} {a1:Int} {a2:Int} {r:Bool} (h:impl_TreeWorld_slotOk_m a0 a1 a2 = some r):PureC Try.prog 56 [.rp [slD TreeBridge.enc a0.Bridges,slD TreeLink.enc a0.Links,slD encInt a0.Down,slD TreeSlot.enc a0.AtA,slD TreeSlot.enc a0.AtB,slD TreeWord.enc a0.Radio],.d (.int .i64 a1),.d (.int .i64 a2)] (.d (.bool r)) []:=by
  refine pureC_x tOk (fn:=Try.f56) (c:=codeOf Try.f56) rfl rfl ?_;unfold impl_TreeWorld_slotOk_m at h;(conv=>whnf);obtain ⟨x1,hx1,h⟩:=bd_some h;refine cE [] 0 (impl_TreeWorld_slot_c hx1) ?_;(conv=>whnf);refine seq_in tOk ?_;(conv=>whnf);obtain ⟨x2,hx2,h⟩:=bd_some h;obtain ⟨x3,hx3,h⟩:=bd_some h;obtain ⟨x4,hx4,h⟩:=bd_some h;refine draw_u tOk [.u 2 0 (.d (.bool x2)) [],.u 7 0 (.d (.bool x3)) [],.u 16 0 (.d (.bool x4)) []] 19 [] [0,1,3,7,15,31,63,127,255,511,1023,2047,4095,8191,2047,18431,51199,131071,262143] [] ?_;(conv=>whnf);refine And.intro (callD_any (impl_TreeVectorOk_c hx2) (by kernel_rfl)) ?_;(conv=>whnf);refine And.intro (callDG_if rfl rfl rfl rfl (by intro c0; exact impl_within_c (gcall_some hx3 c0))) ?_;(conv=>whnf);refine And.intro (callDG_if rfl rfl rfl rfl (by intro c0; exact impl_TreeVector_nothing_c (gcall_some hx4 c0))) ?_;(conv=>whnf);refine And.intro (by kernel_rfl) ?_;(conv=>whnf);refine andI h (fun _ h=>?_) (fun _ h=>?_)
  · (conv=>whnf);obtain rfl:=Option.some.inj h;exact lfP []
  · (conv=>whnf);obtain ⟨x5,hx5,h⟩:=bd_some h;obtain ⟨x6,hx6,h⟩:=bd_some h;obtain ⟨x7,hx7,h⟩:=bd_some h;obtain ⟨g8,h⟩:=gd_some h;refine draw_u tOk [.u 2 0 (.d (.bool x5)) [],.u 6 0 (.d (.bool x6)) [],.u 16 0 (.d (.int .i64 x7)) []] 23 [] [0,1,3,7,15,15,63,127,255,511,1023,2047,4095,511,511,511,57855,131071,262143,524287,1048575,2097151,4194303] [] ?_;(conv=>whnf);refine And.intro (callD_any (impl_TreeVector_nothing_c hx5) (by kernel_rfl)) ?_;(conv=>whnf);refine And.intro (callDG_if rfl rfl rfl rfl (by intro c0; exact impl_TreeWorld_isDown_c (gcall_some hx6 c0))) ?_;(conv=>whnf);refine And.intro (callDG_if rfl rfl rfl rfl (by intro c0 c1; exact impl_TreeWorld_bridgeAt_c (gcall_some hx7 ⟨c0,c1⟩))) ?_;(conv=>whnf);refine And.intro g8 ?_;clear g8;(conv=>whnf);refine And.intro (by kernel_rfl) ?_;(conv=>whnf);obtain rfl:=Option.some.inj h;exact lfP []
noncomputable def impl_TreeWorldOk_1_m (a0:TreeWord) (a1:TreeWorld):Option (Bool) :=
 bd (impl_TreeWorld_isLink_m a1 a0.Link) fun x1 =>
 bd (gcall ((!x1) = false) (impl_within_m a0.End 0 1)) fun x2 =>
 bd (gcall (((!x1) || (!x2)) = false) (impl_TreeVectorOk_m a0.Vector)) fun x3 =>
 bd (gcall ((((!x1) || (!x2)) || (!x3)) = false) (impl_TreeVector_nothing_m a0.Vector)) fun x4 =>
 some ((((!x1) || (!x2)) || (!x3)) || x4)
theorem impl_TreeWorldOk_1_c {a0:TreeWord} {a1:TreeWorld} {r:Bool} (h:impl_TreeWorldOk_1_m a0 a1 = some r):PureC Try.prog 58 [.agg [.d (.int .i64 a0.Link),.d (.int .i64 a0.End),.d (.int .i64 a0.Vector.Root),.d (.int .i64 a0.Vector.Cost),.d (.int .i64 a0.Vector.Age)],.rp [slD TreeBridge.enc a1.Bridges,slD TreeLink.enc a1.Links,slD encInt a1.Down,slD TreeSlot.enc a1.AtA,slD TreeSlot.enc a1.AtB,slD TreeWord.enc a1.Radio]] (.d (.bool r)) []:=by
  refine pureC_x tOk (fn:=Try.f58) (c:=codeOf Try.f58) rfl rfl ?_;unfold impl_TreeWorldOk_1_m at h;(conv=>whnf);obtain ⟨x1,hx1,h⟩:=bd_some h;refine cC 0 (impl_TreeWorld_isLink_c hx1) ?_;clear hx1;(conv=>whnf);obtain ⟨x2,hx2,h⟩:=bd_some h;refine callG_m rfl rfl rfl rfl rfl rfl (by intro c0; exact impl_within_c (gcall_some hx2 c0)) ?_;(conv=>whnf);obtain ⟨x3,hx3,h⟩:=bd_some h;refine callG_m rfl rfl rfl rfl rfl rfl (by intro c0; exact impl_TreeVectorOk_c (gcall_some hx3 c0)) ?_;(conv=>whnf);obtain ⟨x4,hx4,h⟩:=bd_some h;refine callG_m rfl rfl rfl rfl rfl rfl (by intro c0; exact impl_TreeVector_nothing_c (gcall_some hx4 c0)) ?_;(conv=>whnf);obtain rfl:=Option.some.inj h;exact lfP []
noncomputable def slices_IndexFunc_TreeWord_TreeWord_impl_TreeWorldOk_1_m (a0:(List TreeWord)) (a1c0:TreeWorld):Option (Int) :=
 bd (lp (σ:=Int) (β:=(Int ⊕ Unit)) (fun s1 =>
(if (decide (s1<((a0.length:Nat):Int))) = true then
 gd ((0:Int)≤s1∧s1<((a0.length:Nat):Int)) <|
 bd (impl_TreeWorldOk_1_m ({ (a0.getD s1.toNat default) with Vector:=((a0.getD s1.toNat default).Vector) }) a1c0) fun x6 =>
(if x6 = true then
 some (.inr (.inl s1))
else
 some (.inl (IntKind.i64.wrap (s1+1))))
else
 some (.inr (.inr ())))) 0) fun x4 =>
(match x4 with
| .inl d7 =>
 some d7
| .inr d8 =>
 some (-1))
theorem slices_IndexFunc_TreeWord_TreeWord_impl_TreeWorldOk_1_c {a0:(List TreeWord)} {a1c0:TreeWorld} {r:Int} (h:slices_IndexFunc_TreeWord_TreeWord_impl_TreeWorldOk_1_m a0 a1c0 = some r):PureC Try.prog 107 [.d (slD TreeWord.enc a0),.fn 58 [.rp [slD TreeBridge.enc a1c0.Bridges,slD TreeLink.enc a1c0.Links,slD encInt a1c0.Down,slD TreeSlot.enc a1c0.AtA,slD TreeSlot.enc a1c0.AtB,slD TreeWord.enc a1c0.Radio]]] (.d (.int .i64 r)) []:=by
  refine pureC_x tOk (fn:=Try.f107) (c:=codeOf Try.f107) rfl rfl ?_;unfold slices_IndexFunc_TreeWord_TreeWord_impl_TreeWorldOk_1_m at h;(conv=>whnf);refine seq_in tOk ?_;(conv=>whnf);obtain ⟨x4,hx4,h⟩:=bd_some h;refine loop_m tOk hx4 (fun s1=>⟨0,19,[(0,.d (slD TreeWord.enc a0)),(1,.fn 58 [.rp [slD TreeBridge.enc a1c0.Bridges,slD TreeLink.enc a1c0.Links,slD encInt a1c0.Down,slD TreeSlot.enc a1c0.AtA,slD TreeSlot.enc a1c0.AtB,slD TreeWord.enc a1c0.Radio]]),(7,.d (.int .i64 ((a0.length:Nat):Int))),(8,.d (.int .i64 s1))],[],[],[]⟩) ?_ ?_
  · exact leX []
  · clear hx4;intro s1 y2 g3 hy2;(conv=>whnf);refine seq_in tOk ?_;(conv=>whnf);refine andI g3 (fun _ g3=>?_) (fun _ g3=>?_)
    · (conv=>whnf);refine seq_in tOk ?_;(conv=>whnf);refine gdI g3 (fun g3=>?_);(conv=>whnf);obtain ⟨x6,hx6,g3⟩:=bd_some g3;refine cC 0 (impl_TreeWorldOk_1_c hx6) ?_;clear hx6;(conv=>whnf);refine andI g3 (fun _ g3=>?_) (fun _ g3=>?_)
      · (conv=>whnf);obtain rfl:=Option.some.inj g3;obtain rfl:=hy2 _ rfl;obtain rfl:=Option.some.inj h;exact lfP []
      · (conv=>whnf);obtain rfl:=Option.some.inj g3;exact ⟨_,rfl,leX []⟩
    · (conv=>whnf);obtain rfl:=Option.some.inj g3;obtain rfl:=hy2 _ rfl;obtain rfl:=Option.some.inj h;exact lfP []
noncomputable def slices_ContainsFunc_TreeWord_TreeWord_impl_TreeWorldOk_1_m (a0:(List TreeWord)) (a1c0:TreeWorld):Option (Bool) :=
 bd (slices_IndexFunc_TreeWord_TreeWord_impl_TreeWorldOk_1_m a0 a1c0) fun x1 =>
 some (decide (x1 ≥ 0))
theorem slices_ContainsFunc_TreeWord_TreeWord_impl_TreeWorldOk_1_c {a0:(List TreeWord)} {a1c0:TreeWorld} {r:Bool} (h:slices_ContainsFunc_TreeWord_TreeWord_impl_TreeWorldOk_1_m a0 a1c0 = some r):PureC Try.prog 57 [.d (slD TreeWord.enc a0),.fn 58 [.rp [slD TreeBridge.enc a1c0.Bridges,slD TreeLink.enc a1c0.Links,slD encInt a1c0.Down,slD TreeSlot.enc a1c0.AtA,slD TreeSlot.enc a1c0.AtB,slD TreeWord.enc a1c0.Radio]]] (.d (.bool r)) []:=by
  refine pureC_x tOk (fn:=Try.f57) (c:=codeOf Try.f57) rfl rfl ?_;unfold slices_ContainsFunc_TreeWord_TreeWord_impl_TreeWorldOk_1_m at h;(conv=>whnf);obtain ⟨x1,hx1,h⟩:=bd_some h;refine cC 0 (slices_IndexFunc_TreeWord_TreeWord_impl_TreeWorldOk_1_c hx1) ?_;clear hx1;(conv=>whnf);obtain rfl:=Option.some.inj h;exact lfP []
end Go.Proofs.Ythgcnnkjojemdaa
