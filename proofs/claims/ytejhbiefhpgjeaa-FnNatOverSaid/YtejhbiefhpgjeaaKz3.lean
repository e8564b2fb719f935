/-
  What some of the program's functions compute: their models, and that the functions compute these; no condition.
-/
import Derived.Test.YtejhbiefhpgjeaaTyz
import Derived.Test.YtejhbiefhpgjeaaTbz
import Derived.Test.YtejhbiefhpgjeaaKz2
set_option linter.all false
namespace Go.Proofs.Ytejhbiefhpgjeaa
open Go Go.Ab
set_option maxRecDepth 100000
set_option maxHeartbeats 40000000
noncomputable def spec_l25SpoilFlow_m (a0:l21Rd) (a1:NatFlow):Option (NatFlow × l21Rd) :=
 bd (spec_l21Rd_pick_m a0 5) fun x1 =>
(if (x1.1 == 0) = true then
 bd (spec_l21Rd_pick_m (⟨a0.b,x1.2.p⟩:l21Rd) 4) fun x2 =>
 gd ((0:Int)≤x2.1∧x2.1<((([0,7,8,-1]:List Int).length:Nat):Int)) <|
 some ({ a1 with Kind:=(([0,7,8,-1]:List Int).getD x2.1.toNat default) },(⟨a0.b,x2.2.p⟩:l21Rd))
else
(if (x1.1 == 1) = true then
 bd (spec_l21Rd_pick_m (⟨a0.b,x1.2.p⟩:l21Rd) 4) fun x4 =>
 gd ((0:Int)≤x4.1∧x4.1<((([-1,0,65535,65536]:List Int).length:Nat):Int)) <|
 some ({ a1 with From:=(([-1,0,65535,65536]:List Int).getD x4.1.toNat default) },(⟨a0.b,x4.2.p⟩:l21Rd))
else
(if (x1.1 == 2) = true then
 bd (spec_l21Rd_pick_m (⟨a0.b,x1.2.p⟩:l21Rd) 6) fun x6 =>
 gd ((0:Int)≤x6.1∧x6.1<((([-1,0,65535,65536,2560,51201]:List Int).length:Nat):Int)) <|
 some ({ a1 with To:=(([-1,0,65535,65536,2560,51201]:List Int).getD x6.1.toNat default) },(⟨a0.b,x6.2.p⟩:l21Rd))
else
(if (x1.1 == 3) = true then
 bd (spec_l21Rd_pick_m (⟨a0.b,x1.2.p⟩:l21Rd) 4) fun x8 =>
 gd ((0:Int)≤x8.1∧x8.1<((([0,-1,65535,65536]:List Int).length:Nat):Int)) <|
 some ({ a1 with FromPort:=(([0,-1,65535,65536]:List Int).getD x8.1.toNat default) },(⟨a0.b,x8.2.p⟩:l21Rd))
else
 bd (spec_l21Rd_pick_m (⟨a0.b,x1.2.p⟩:l21Rd) 4) fun x10 =>
 gd ((0:Int)≤x10.1∧x10.1<((([0,-1,65535,65536]:List Int).length:Nat):Int)) <|
 some ({ a1 with ToPort:=(([0,-1,65535,65536]:List Int).getD x10.1.toNat default) },(⟨a0.b,x10.2.p⟩:l21Rd))))))
theorem spec_l25SpoilFlow_c {a0:l21Rd} {a1:NatFlow} {r:NatFlow × l21Rd} (h:spec_l25SpoilFlow_m a0 a1 = some r):EffC Try.prog 73 [.ref 9000 0 0,.agg [.d (.int .i64 a1.Kind),.d (.int .i64 a1.From),.d (.int .i64 a1.FromPort),.d (.int .i64 a1.To),.d (.int .i64 a1.ToPort)]] [(9000,.box 155 [.d (slD encByte a0.b),.d (.int .i64 a0.p)])] (.agg [.d (.int .i64 r.1.Kind),.d (.int .i64 r.1.From),.d (.int .i64 r.1.FromPort),.d (.int .i64 r.1.To),.d (.int .i64 r.1.ToPort)]) [(9000,.box 155 [.d (slD encByte a0.b),.d (.int .i64 r.2.p)])]:=by
  refine effC_x tOk (fn:=Try.f73) (c:=codeOf Try.f73) rfl rfl ?_;unfold spec_l25SpoilFlow_m at h;(conv=>whnf);refine seq_in tOk ?_;(conv=>whnf);obtain ⟨x1,hx1,h⟩:=bd_some h;refine cE [(9000,9000)] 0 (spec_l21Rd_pick_c hx1) ?_;(conv=>whnf);refine andI h (fun _ h=>?_) (fun _ h=>?_)
  · (conv=>whnf);refine bldS (enc:=encInt) ([0,7,8,-1]:List Int) ?_;(conv=>whnf);obtain ⟨x2,hx2,h⟩:=bd_some h;refine cE [(9000,9000)] 0 (spec_l21Rd_pick_c hx2) ?_;(conv=>whnf);refine gdI h (fun h=>?_);(conv=>whnf);obtain rfl:=Option.some.inj h;exact lfE []
  · (conv=>whnf);refine andI h (fun _ h=>?_) (fun _ h=>?_)
    · (conv=>whnf);refine bldS (enc:=encInt) ([-1,0,65535,65536]:List Int) ?_;(conv=>whnf);obtain ⟨x4,hx4,h⟩:=bd_some h;refine cE [(9000,9000)] 0 (spec_l21Rd_pick_c hx4) ?_;(conv=>whnf);refine gdI h (fun h=>?_);(conv=>whnf);obtain rfl:=Option.some.inj h;exact lfE []
    · (conv=>whnf);refine andI h (fun _ h=>?_) (fun _ h=>?_)
      · (conv=>whnf);refine bldS (enc:=encInt) ([-1,0,65535,65536,2560,51201]:List Int) ?_;(conv=>whnf);obtain ⟨x6,hx6,h⟩:=bd_some h;refine cE [(9000,9000)] 0 (spec_l21Rd_pick_c hx6) ?_;(conv=>whnf);refine gdI h (fun h=>?_);(conv=>whnf);obtain rfl:=Option.some.inj h;exact lfE []
      · (conv=>whnf);refine andI h (fun _ h=>?_) (fun _ h=>?_)
        · (conv=>whnf);refine bldS (enc:=encInt) ([0,-1,65535,65536]:List Int) ?_;(conv=>whnf);obtain ⟨x8,hx8,h⟩:=bd_some h;refine cE [(9000,9000)] 0 (spec_l21Rd_pick_c hx8) ?_;(conv=>whnf);refine gdI h (fun h=>?_);(conv=>whnf);obtain rfl:=Option.some.inj h;exact lfE []
        · (conv=>whnf);refine bldS (enc:=encInt) ([0,-1,65535,65536]:List Int) ?_;(conv=>whnf);obtain ⟨x10,hx10,h⟩:=bd_some h;refine cE [(9000,9000)] 0 (spec_l21Rd_pick_c hx10) ?_;(conv=>whnf);refine gdI h (fun h=>?_);(conv=>whnf);obtain rfl:=Option.some.inj h;exact lfE []
noncomputable def spec_DrawNatIn_m (a0:(List Int)):Option (NatBook × NatFlow) :=
 bd (spec_l21Open_m a0) fun x1 =>
 bd (spec_l25Any_m x1) fun x2 =>
 bd (spec_l25InFlow_m (⟨x1.b,x2.2.p⟩:l21Rd) x2.1) fun x3 =>
 bd (spec_l21Rd_pick_m (⟨x1.b,x3.2.p⟩:l21Rd) 16) fun x4 =>
(if (x4.1 == 0) = true then
 bd (spec_l25SpoilFlow_m (⟨x1.b,x4.2.p⟩:l21Rd) x3.1) fun x5 =>
 some (x2.1,x5.1)
else
 some (x2.1,x3.1))
theorem spec_DrawNatIn_c {a0:(List Int)} {r:NatBook × NatFlow} (h:spec_DrawNatIn_m a0 = some r):EffC Try.prog 28 [.d (slD encByte a0)] [] (.tup [.agg [.d (.int .i64 r.1.Addr),.d (.int .i64 r.1.Len),.d (.int .i64 r.1.Own),.d (.int .i64 r.1.Low),.d (.int .i64 r.1.High),.d (slD NatDoor.enc r.1.Doors),.d (.int .i64 r.1.Now),.d (slD NatEntry.enc r.1.Entries)],.agg [.d (.int .i64 r.2.Kind),.d (.int .i64 r.2.From),.d (.int .i64 r.2.FromPort),.d (.int .i64 r.2.To),.d (.int .i64 r.2.ToPort)]]) []:=by
  refine effC_x tOk (fn:=Try.f28) (c:=codeOf Try.f28) rfl rfl ?_;unfold spec_DrawNatIn_m at h;(conv=>whnf);obtain ⟨x1,hx1,h⟩:=bd_some h;refine cE [] 1000 (spec_l21Open_c hx1) ?_;(conv=>whnf);obtain ⟨x2,hx2,h⟩:=bd_some h;refine cE [(9000,6001)] 0 (spec_l25Any_c hx2) ?_;(conv=>whnf);obtain ⟨x3,hx3,h⟩:=bd_some h;refine cE [(9000,6001)] 0 (spec_l25InFlow_c hx3) ?_;(conv=>whnf);refine seq_in tOk ?_;(conv=>whnf);obtain ⟨x4,hx4,h⟩:=bd_some h;refine cE [(9000,6001)] 0 (spec_l21Rd_pick_c hx4) ?_;(conv=>whnf);refine andI h (fun _ h=>?_) (fun _ h=>?_)
  · (conv=>whnf);obtain ⟨x5,hx5,h⟩:=bd_some h;refine cE [(9000,6001)] 0 (spec_l25SpoilFlow_c hx5) ?_;(conv=>whnf);refine draw_t tOk [.a 2 [(2,.box 56 [.d (.int .i64 0),.d (.int .i64 0),.d (.int .i64 0),.d (.int .i64 0),.d (.int .i64 0),.d (.nil),.d (.int .i64 0),.d (.nil)])] (.any) [(2,.box 56 [.d (.int .i64 x2.1.Addr),.d (.int .i64 x2.1.Len),.d (.int .i64 x2.1.Own),.d (.int .i64 x2.1.Low),.d (.int .i64 x2.1.High),.d (slD NatDoor.enc x2.1.Doors),.d (.int .i64 x2.1.Now),.d (slD NatEntry.enc x2.1.Entries)])],.a 3 [(3,.box 67 [.d (.int .i64 0),.d (.int .i64 0),.d (.int .i64 0),.d (.int .i64 0),.d (.int .i64 0)])] (.any) [(3,.box 67 [.d (.int .i64 x5.1.Kind),.d (.int .i64 x5.1.From),.d (.int .i64 x5.1.FromPort),.d (.int .i64 x5.1.To),.d (.int .i64 x5.1.ToPort)])]] 4 [] [0,0,1,7] [] [2,3] ?_;(conv=>whnf);refine And.intro (by (conv=>whnf); exact ⟨rfl,rfl⟩) ?_;(conv=>whnf);refine And.intro (by (conv=>whnf); exact ⟨rfl,rfl⟩) ?_;(conv=>whnf);refine And.intro (by kernel_rfl) ?_;(conv=>whnf);obtain rfl:=Option.some.inj h;exact lfE []
  · (conv=>whnf);refine draw_t tOk [.a 2 [(2,.box 56 [.d (.int .i64 0),.d (.int .i64 0),.d (.int .i64 0),.d (.int .i64 0),.d (.int .i64 0),.d (.nil),.d (.int .i64 0),.d (.nil)])] (.any) [(2,.box 56 [.d (.int .i64 x2.1.Addr),.d (.int .i64 x2.1.Len),.d (.int .i64 x2.1.Own),.d (.int .i64 x2.1.Low),.d (.int .i64 x2.1.High),.d (slD NatDoor.enc x2.1.Doors),.d (.int .i64 x2.1.Now),.d (slD NatEntry.enc x2.1.Entries)])],.a 3 [(3,.box 67 [.d (.int .i64 0),.d (.int .i64 0),.d (.int .i64 0),.d (.int .i64 0),.d (.int .i64 0)])] (.any) [(3,.box 67 [.d (.int .i64 x3.1.Kind),.d (.int .i64 x3.1.From),.d (.int .i64 x3.1.FromPort),.d (.int .i64 x3.1.To),.d (.int .i64 x3.1.ToPort)])]] 4 [] [0,0,1,7] [] [2,3] ?_;(conv=>whnf);refine And.intro (by (conv=>whnf); exact ⟨rfl,rfl⟩) ?_;(conv=>whnf);refine And.intro (by (conv=>whnf); exact ⟨rfl,rfl⟩) ?_;(conv=>whnf);refine And.intro (by kernel_rfl) ?_;(conv=>whnf);obtain rfl:=Option.some.inj h;exact lfE []
noncomputable def spec_l23To_m (a0:NatFlow) (a1:Int) (a2:Int):Option (NatFlow) :=
 some ({ a0 with To:=a1,ToPort:=a2 })
theorem spec_l23To_c {a0:NatFlow} {a1:Int} {a2:Int} {r:NatFlow} (h:spec_l23To_m a0 a1 a2 = some r):PureC Try.prog 76 [.agg [.d (.int .i64 a0.Kind),.d (.int .i64 a0.From),.d (.int .i64 a0.FromPort),.d (.int .i64 a0.To),.d (.int .i64 a0.ToPort)],.d (.int .i64 a1),.d (.int .i64 a2)] (.agg [.d (.int .i64 r.Kind),.d (.int .i64 r.From),.d (.int .i64 r.FromPort),.d (.int .i64 r.To),.d (.int .i64 r.ToPort)]) []:=by
  refine pureC_x tOk (fn:=Try.f76) (c:=codeOf Try.f76) rfl rfl ?_;unfold spec_l23To_m at h;(conv=>whnf);obtain rfl:=Option.some.inj h;exact lfP []
noncomputable def spec_NatIn_m (a0:NatBook) (a1:NatFlow):Option (NatFlow × Int) :=
 bd (spec_NatBookOk_m a0) fun x1 =>
(if (!x1) = true then
 some ((⟨0,0,0,0,0⟩:NatFlow),1)
else
 bd (spec_NatFlowOk_m a1) fun x2 =>
(if (!x2) = true then
 some ((⟨0,0,0,0,0⟩:NatFlow),2)
else
 bd (gcall ((a1.To != a0.Own) = false) (spec_l22Inside_m a0 a1.From)) fun x3 =>
(if (((a1.To != a0.Own) || x3) || (a1.From == a0.Own)) = true then
 some ((⟨0,0,0,0,0⟩:NatFlow),3)
else
 bd (lp (σ:=Int) (β:=((Int × Int × Int × Int × Int) ⊕ Unit)) (fun s4 =>
(if (decide (s4<((a0.Doors.length:Nat):Int))) = true then
 gd ((0:Int)≤s4∧s4<((a0.Doors.length:Nat):Int)) <|
 gd ((((a0.Doors.getD s4.toNat default).Kind) == a1.Kind) = true → ((0:Int)≤s4∧s4<((a0.Doors.length:Nat):Int))) <|
(if ((((a0.Doors.getD s4.toNat default).Kind) == a1.Kind) && (((a0.Doors.getD s4.toNat default).Outer) == a1.ToPort)) = true then
 gd ((0:Int)≤s4∧s4<((a0.Doors.length:Nat):Int)) <|
 gd ((0:Int)≤s4∧s4<((a0.Doors.length:Nat):Int)) <|
 bd (spec_l23To_m a1 ((a0.Doors.getD s4.toNat default).Inner) ((a0.Doors.getD s4.toNat default).InnerPort)) fun x12 =>
 some (.inr (.inl (x12.Kind,x12.From,x12.FromPort,x12.To,x12.ToPort)))
else
 some (.inl (IntKind.i64.wrap (s4+1))))
else
 some (.inr (.inr ())))) 0) fun x7 =>
(match x7 with
| .inl d13 =>
 some ((⟨d13.1,d13.2.1,d13.2.2.1,d13.2.2.2.1,d13.2.2.2.2⟩:NatFlow),0)
| .inr d14 =>
 bd (lp (σ:=Int) (β:=((Int × Int × Int × Int × Int) ⊕ Unit)) (fun s15 =>
(if (decide (s15<((a0.Entries.length:Nat):Int))) = true then
 gd ((0:Int)≤s15∧s15<((a0.Entries.length:Nat):Int)) <|
 bd (spec_l22Live_m a0 (a0.Entries.getD s15.toNat default)) fun x20 =>
(if ((((x20 && (((a0.Entries.getD s15.toNat default).Kind) == a1.Kind)) && (((a0.Entries.getD s15.toNat default).Peer) == a1.From)) && (((a0.Entries.getD s15.toNat default).PeerPort) == a1.FromPort)) && (((a0.Entries.getD s15.toNat default).Outer) == a1.ToPort)) = true then
 bd (spec_l23To_m a1 ((a0.Entries.getD s15.toNat default).Inner) ((a0.Entries.getD s15.toNat default).InnerPort)) fun x21 =>
 some (.inr (.inl (x21.Kind,x21.From,x21.FromPort,x21.To,x21.ToPort)))
else
 some (.inl (IntKind.i64.wrap (s15+1))))
else
 some (.inr (.inr ())))) 0) fun x18 =>
(match x18 with
| .inl d22 =>
 some ((⟨d22.1,d22.2.1,d22.2.2.1,d22.2.2.2.1,d22.2.2.2.2⟩:NatFlow),0)
| .inr d23 =>
 some ((⟨0,0,0,0,0⟩:NatFlow),6))))))
theorem spec_NatIn_c {a0:NatBook} {a1:NatFlow} {r:NatFlow × Int} (h:spec_NatIn_m a0 a1 = some r):PureC Try.prog 29 [.agg [.d (.int .i64 a0.Addr),.d (.int .i64 a0.Len),.d (.int .i64 a0.Own),.d (.int .i64 a0.Low),.d (.int .i64 a0.High),.d (slD NatDoor.enc a0.Doors),.d (.int .i64 a0.Now),.d (slD NatEntry.enc a0.Entries)],.agg [.d (.int .i64 a1.Kind),.d (.int .i64 a1.From),.d (.int .i64 a1.FromPort),.d (.int .i64 a1.To),.d (.int .i64 a1.ToPort)]] (.tup [.agg [.d (.int .i64 r.1.Kind),.d (.int .i64 r.1.From),.d (.int .i64 r.1.FromPort),.d (.int .i64 r.1.To),.d (.int .i64 r.1.ToPort)],.d (.int .i64 r.2)]) []:=by
  refine pureC_x tOk (fn:=Try.f29) (c:=codeOf Try.f29) rfl rfl ?_;unfold spec_NatIn_m at h;(conv=>whnf);refine seq_in tOk ?_;(conv=>whnf);obtain ⟨x1,hx1,h⟩:=bd_some h;refine cC 0 (spec_NatBookOk_c hx1) ?_;clear hx1;(conv=>whnf);refine andI h (fun _ h=>?_) (fun _ h=>?_)
  · (conv=>whnf);obtain rfl:=Option.some.inj h;exact lfP []
  · (conv=>whnf);refine seq_in tOk ?_;(conv=>whnf);obtain ⟨x2,hx2,h⟩:=bd_some h;refine cC 0 (spec_NatFlowOk_c hx2) ?_;clear hx2;(conv=>whnf);refine andI h (fun _ h=>?_) (fun _ h=>?_)
    · (conv=>whnf);obtain rfl:=Option.some.inj h;exact lfP []
    · (conv=>whnf);refine seq_in tOk ?_;(conv=>whnf);obtain ⟨x3,hx3,h⟩:=bd_some h;refine cG (fun c0=>spec_l22Inside_c (gcall_some hx3 c0)) ?_;(conv=>whnf);refine andI h (fun _ h=>?_) (fun _ h=>?_)
      · (conv=>whnf);obtain rfl:=Option.some.inj h;exact lfP []
      · (conv=>whnf);refine seq_in tOk ?_;(conv=>whnf);obtain ⟨x7,hx7,h⟩:=bd_some h;refine loop_m tOk hx7 (fun s4=>⟨0,127,[(2,.ref 2 0 0),(3,.ref 3 0 0),(4,.ref 4 0 0),(6,.d (.int .i64 s4))],[],[(4,.box 67 [.d (.int .i64 0),.d (.int .i64 0),.d (.int .i64 0),.d (.int .i64 0),.d (.int .i64 0)]),(3,.box 67 [.d (.int .i64 a1.Kind),.d (.int .i64 a1.From),.d (.int .i64 a1.FromPort),.d (.int .i64 a1.To),.d (.int .i64 a1.ToPort)]),(2,.box 56 [.d (.int .i64 a0.Addr),.d (.int .i64 a0.Len),.d (.int .i64 a0.Own),.d (.int .i64 a0.Low),.d (.int .i64 a0.High),.d (slD NatDoor.enc a0.Doors),.d (.int .i64 a0.Now),.d (slD NatEntry.enc a0.Entries)])],[]⟩) ?_ ?_
        · exact leX []
        · clear hx7;intro s4 y5 g6 hy5;(conv=>whnf);refine seq_in tOk ?_;(conv=>whnf);refine andI g6 (fun _ g6=>?_) (fun _ g6=>?_)
          · (conv=>whnf);refine seq_in tOk ?_;(conv=>whnf);obtain ⟨g8,g6⟩:=gd_some g6;obtain ⟨g9,g6⟩:=gd_some g6;refine draw_u tOk [] 20 [] [0,1,0,7,15,31,0,64,255,511,1023,2047,1023,8191,16383,32767,1023,66559,262143,524287] [] ?_;(conv=>whnf);refine And.intro g8 ?_;clear g8;(conv=>whnf);refine And.intro g9 ?_;clear g9;(conv=>whnf);refine And.intro (by kernel_rfl) ?_;(conv=>whnf);refine andI g6 (fun _ g6=>?_) (fun _ g6=>?_)
            · (conv=>whnf);obtain ⟨g10,g6⟩:=gd_some g6;obtain ⟨g11,g6⟩:=gd_some g6;obtain ⟨x12,hx12,g6⟩:=bd_some g6;refine draw_u tOk [.u 13 0 (.agg [.d (.int .i64 x12.Kind),.d (.int .i64 x12.From),.d (.int .i64 x12.FromPort),.d (.int .i64 x12.To),.d (.int .i64 x12.ToPort)]) []] 14 [] [0,0,2,0,14,30,62,0,128,0,896,1920,3968,8191] [16383,32767] ?_;(conv=>whnf);refine And.intro g10 ?_;clear g10;(conv=>whnf);refine And.intro g11 ?_;clear g11;(conv=>whnf);refine And.intro (callD_any (spec_l23To_c hx12) (by kernel_rfl)) ?_;(conv=>whnf);refine And.intro (by kernel_rfl) ?_;(conv=>whnf);obtain rfl:=Option.some.inj g6;obtain rfl:=hy5 _ rfl;obtain rfl:=Option.some.inj h;exact lfP []
            · (conv=>whnf);obtain rfl:=Option.some.inj g6;exact ⟨_,rfl,leX []⟩
          · (conv=>whnf);obtain rfl:=Option.some.inj g6;obtain rfl:=hy5 _ rfl;refine seq_in tOk ?_;(conv=>whnf);obtain ⟨x18,hx18,h⟩:=bd_some h;refine loop_m tOk hx18 (fun s15=>⟨0,127,[(2,.ref 2 0 0),(3,.ref 3 0 0),(4,.ref 4 0 0),(7,.d (.int .i64 s15))],[],[(4,.box 67 [.d (.int .i64 0),.d (.int .i64 0),.d (.int .i64 0),.d (.int .i64 0),.d (.int .i64 0)]),(3,.box 67 [.d (.int .i64 a1.Kind),.d (.int .i64 a1.From),.d (.int .i64 a1.FromPort),.d (.int .i64 a1.To),.d (.int .i64 a1.ToPort)]),(2,.box 56 [.d (.int .i64 a0.Addr),.d (.int .i64 a0.Len),.d (.int .i64 a0.Own),.d (.int .i64 a0.Low),.d (.int .i64 a0.High),.d (slD NatDoor.enc a0.Doors),.d (.int .i64 a0.Now),.d (slD NatEntry.enc a0.Entries)])],[]⟩) ?_ ?_
            · exact leX []
            · clear hx18;intro s15 y16 g17 hy16;(conv=>whnf);refine seq_in tOk ?_;(conv=>whnf);refine andI g17 (fun _ g17=>?_) (fun _ g17=>?_)
              · (conv=>whnf);refine seq_in tOk ?_;(conv=>whnf);refine gdI g17 (fun g17=>?_);(conv=>whnf);obtain ⟨x20,hx20,g17⟩:=bd_some g17;refine cC 0 (spec_l22Live_c hx20) ?_;clear hx20;(conv=>whnf);refine andI g17 (fun _ g17=>?_) (fun _ g17=>?_)
                · (conv=>whnf);obtain ⟨x21,hx21,g17⟩:=bd_some g17;refine cC 0 (spec_l23To_c hx21) ?_;clear hx21;(conv=>whnf);obtain rfl:=Option.some.inj g17;obtain rfl:=hy16 _ rfl;obtain rfl:=Option.some.inj h;exact lfP []
                · (conv=>whnf);obtain rfl:=Option.some.inj g17;exact ⟨_,rfl,leX []⟩
              · (conv=>whnf);obtain rfl:=Option.some.inj g17;obtain rfl:=hy16 _ rfl;obtain rfl:=Option.some.inj h;exact lfP []
noncomputable def laws_FnNatOver_m (a0:(List Int)) (a1:(List Int)):Option (Bool) :=
(if ((decide (((a0.length:Nat):Int) > 1048576)) || (decide (((a1.length:Nat):Int) > 1048576))) = true then
 some true
else
 bd (spec_DrawNatTick_m a0) fun x1 =>
 bd (lp (σ:=Int × Int × Int × Int × Int × List NatDoor × Int × List NatEntry × Int) (β:=(Unit ⊕ (Int × Int × Int × Int × Int × (List NatDoor) × Int × (List NatEntry)))) (fun s2 =>
(if (decide (s2.2.2.2.2.2.2.2.2<12)) = true then
 bd (impl_NatTick_m (⟨s2.1,s2.2.1,s2.2.2.1,s2.2.2.2.1,s2.2.2.2.2.1,s2.2.2.2.2.2.1,s2.2.2.2.2.2.2.1,s2.2.2.2.2.2.2.2.1⟩:NatBook)) fun x6 =>
 bd (spec_NatTick_m (⟨s2.1,s2.2.1,s2.2.2.1,s2.2.2.2.1,s2.2.2.2.2.1,s2.2.2.2.2.2.1,s2.2.2.2.2.2.2.1,s2.2.2.2.2.2.2.2.1⟩:NatBook)) fun x7 =>
 bd (gcall ((x6.2 != x7.2) = false) (laws_wvBook_m x6.1 x7.1)) fun x8 =>
(if ((x6.2 != x7.2) || (!x8)) = true then
 some (.inr (.inl ()))
else
 bd (lp (σ:=Int) (β:=(Unit ⊕ Unit)) (fun s9 =>
(if (((decide (s9<((x1.Entries.length:Nat):Int))) && (decide ((IntKind.i64.wrap (s2.2.2.2.2.2.2.2.2+1)) ≥ 8))) && (x6.2 == 0)) = true then
 gd ((0:Int)≤s9∧s9<((x1.Entries.length:Nat):Int)) <|
 bd (impl_NatIn_m x6.1 (⟨(x1.Entries.getD s9.toNat default).Kind,(x1.Entries.getD s9.toNat default).Peer,(x1.Entries.getD s9.toNat default).PeerPort,x1.Own,(x1.Entries.getD s9.toNat default).Outer⟩:NatFlow)) fun x14 =>
(if (x14.2 != 6) = true then
 some (.inr (.inl ()))
else
 some (.inl (IntKind.i64.wrap (s9+1))))
else
 some (.inr (.inr ())))) 0) fun x12 =>
(match x12 with
| .inl d15 =>
 some (.inr (.inl ()))
| .inr d16 =>
 some (.inl (x6.1.Addr,x6.1.Len,x6.1.Own,x6.1.Low,x6.1.High,x6.1.Doors,x6.1.Now,x6.1.Entries,IntKind.i64.wrap (s2.2.2.2.2.2.2.2.2+1)))))
else
 some (.inr (.inr (s2.1,s2.2.1,s2.2.2.1,s2.2.2.2.1,s2.2.2.2.2.1,s2.2.2.2.2.2.1,s2.2.2.2.2.2.2.1,s2.2.2.2.2.2.2.2.1))))) (x1.Addr,x1.Len,x1.Own,x1.Low,x1.High,x1.Doors,x1.Now,x1.Entries,0)) fun x5 =>
(match x5 with
| .inl d17 =>
 some false
| .inr d18 =>
 bd (spec_NatBookOk_m x1) fun x19 =>
(if (!x19) = true then
 bd (laws_wvBook_m (⟨d18.1,d18.2.1,d18.2.2.1,d18.2.2.2.1,d18.2.2.2.2.1,d18.2.2.2.2.2.1,d18.2.2.2.2.2.2.1,d18.2.2.2.2.2.2.2⟩:NatBook) (⟨0,0,0,0,0,[],0,[]⟩:NatBook)) fun x20 =>
 some x20
else
 bd (spec_DrawNatIn_m a1) fun x21 =>
 bd (impl_NatIn_m (⟨d18.1,d18.2.1,d18.2.2.1,d18.2.2.2.1,d18.2.2.2.2.1,d18.2.2.2.2.2.1,d18.2.2.2.2.2.2.1,d18.2.2.2.2.2.2.2⟩:NatBook) x21.2) fun x22 =>
 bd (spec_NatIn_m (⟨d18.1,d18.2.1,d18.2.2.1,d18.2.2.2.1,d18.2.2.2.2.1,d18.2.2.2.2.2.1,d18.2.2.2.2.2.2.1,d18.2.2.2.2.2.2.2⟩:NatBook) x21.2) fun x23 =>
 some ((x22.2 == x23.2) && ((decide ((IntKind.i64.wrap ((IntKind.i64.wrap (x1.Now+8))+4)) > 1000000)) || (((d18.2.2.2.2.2.2.2.length:Nat):Int) == 0))))))
theorem laws_FnNatOver_c {a0:(List Int)} {a1:(List Int)} {r:Bool} (h:laws_FnNatOver_m a0 a1 = some r):PureC Try.prog 5 [.d (slD encByte a0),.d (slD encByte a1)] (.d (.bool r)) []:=by
  refine pureC_x tOk (fn:=Try.f5) (c:=codeOf Try.f5) rfl rfl ?_;unfold laws_FnNatOver_m at h;(conv=>whnf);refine seq_in tOk ?_;(conv=>whnf);refine andI h (fun _ h=>?_) (fun _ h=>?_)
  · (conv=>whnf);obtain rfl:=Option.some.inj h;exact lfP []
  · (conv=>whnf);obtain ⟨x1,hx1,h⟩:=bd_some h;refine cE [] 0 (spec_DrawNatTick_c hx1) ?_;(conv=>whnf);refine seq_in tOk ?_;(conv=>whnf);obtain ⟨x5,hx5,h⟩:=bd_some h;refine loop_m tOk hx5 (fun s2=>⟨0,137,[(1,.d (slD encByte a1)),(5,.ref 5 0 0),(6,.ref 6 0 0),(7,.d (.int .i64 s2.2.2.2.2.2.2.2.2))],[],[(6,.box 56 [.d (.int .i64 s2.1),.d (.int .i64 s2.2.1),.d (.int .i64 s2.2.2.1),.d (.int .i64 s2.2.2.2.1),.d (.int .i64 s2.2.2.2.2.1),.d (slD NatDoor.enc s2.2.2.2.2.2.1),.d (.int .i64 s2.2.2.2.2.2.2.1),.d (slD NatEntry.enc s2.2.2.2.2.2.2.2.1)]),(5,.box 56 [.d (.int .i64 x1.Addr),.d (.int .i64 x1.Len),.d (.int .i64 x1.Own),.d (.int .i64 x1.Low),.d (.int .i64 x1.High),.d (slD NatDoor.enc x1.Doors),.d (.int .i64 x1.Now),.d (slD NatEntry.enc x1.Entries)])],[]⟩) ?_ ?_
    · exact leX []
    · clear hx5;intro s2 y3 g4 hy3;(conv=>whnf);refine seq_in tOk ?_;(conv=>whnf);refine andI g4 (fun _ g4=>?_) (fun _ g4=>?_)
      · (conv=>whnf);refine seq_in tOk ?_;(conv=>whnf);obtain ⟨x6,hx6,g4⟩:=bd_some g4;refine cC 1000 (impl_NatTick_c hx6) ?_;clear hx6;(conv=>whnf);obtain ⟨x7,hx7,g4⟩:=bd_some g4;refine cC 2000 (spec_NatTick_c hx7) ?_;clear hx7;(conv=>whnf);refine seq_in tOk ?_;(conv=>whnf);obtain ⟨x8,hx8,g4⟩:=bd_some g4;refine cG (fun c0=>laws_wvBook_c (gcall_some hx8 c0)) ?_;(conv=>whnf);refine andI g4 (fun _ g4=>?_) (fun _ g4=>?_)
        · (conv=>whnf);obtain rfl:=Option.some.inj g4;obtain rfl:=hy3 _ rfl;obtain rfl:=Option.some.inj h;exact lfP []
        · (conv=>whnf);obtain ⟨x12,hx12,g4⟩:=bd_some g4;refine loop_m tOk hx12 (fun s9=>⟨0,137,[(1,.d (slD encByte a1)),(5,.ref 5 0 0),(6,.ref 6 0 0),(7,.d (.int .i64 s2.2.2.2.2.2.2.2.2)),(9,.d (.int .i64 x6.2)),(12,.d (.int .i64 s9))],[],[(6002,.arr 65 7 x6.1.Entries.length (rows NatEntry.enc x6.1.Entries)),(6001,.arr 104 4 x6.1.Doors.length (rows NatDoor.enc x6.1.Doors)),(6,.box 56 [.d (.int .i64 x6.1.Addr),.d (.int .i64 x6.1.Len),.d (.int .i64 x6.1.Own),.d (.int .i64 x6.1.Low),.d (.int .i64 x6.1.High),.osl 6001 0 x6.1.Doors.length,.d (.int .i64 x6.1.Now),.osl 6002 0 x6.1.Entries.length]),(5,.box 56 [.d (.int .i64 x1.Addr),.d (.int .i64 x1.Len),.d (.int .i64 x1.Own),.d (.int .i64 x1.Low),.d (.int .i64 x1.High),.d (slD NatDoor.enc x1.Doors),.d (.int .i64 x1.Now),.d (slD NatEntry.enc x1.Entries)])],[]⟩) ?_ ?_
          · exact leX []
          · clear hx12;intro s9 y10 g11 hy10;(conv=>whnf);refine seq_in tOk ?_;(conv=>whnf);refine andI g11 (fun _ g11=>?_) (fun _ g11=>?_)
            · (conv=>whnf);refine seq_in tOk ?_;(conv=>whnf);refine gdI g11 (fun g11=>?_);(conv=>whnf);obtain ⟨x14,hx14,g11⟩:=bd_some g11;refine cC 0 (impl_NatIn_c hx14) ?_;clear hx14;(conv=>whnf);refine andI g11 (fun _ g11=>?_) (fun _ g11=>?_)
              · (conv=>whnf);obtain rfl:=Option.some.inj g11;obtain rfl:=hy10 _ rfl;obtain rfl:=Option.some.inj g4;obtain rfl:=hy3 _ rfl;obtain rfl:=Option.some.inj h;exact lfP []
              · (conv=>whnf);obtain rfl:=Option.some.inj g11;exact ⟨_,rfl,leX []⟩
            · (conv=>whnf);obtain rfl:=Option.some.inj g11;obtain rfl:=hy10 _ rfl;obtain rfl:=Option.some.inj g4;exact ⟨_,rfl,leX [.f [6001,6002]]⟩
      · (conv=>whnf);obtain rfl:=Option.some.inj g4;obtain rfl:=hy3 _ rfl;refine seq_in tOk ?_;(conv=>whnf);obtain ⟨x19,hx19,h⟩:=bd_some h;refine cC 0 (spec_NatBookOk_c hx19) ?_;clear hx19;(conv=>whnf);refine andI h (fun _ h=>?_) (fun _ h=>?_)
        · (conv=>whnf);obtain ⟨x20,hx20,h⟩:=bd_some h;refine callW 0 (laws_wvBook_c hx20) rfl argA rfl ?_;(conv=>whnf);obtain rfl:=Option.some.inj h;exact lfP []
        · (conv=>whnf);obtain ⟨x21,hx21,h⟩:=bd_some h;refine cE [] 0 (spec_DrawNatIn_c hx21) ?_;(conv=>whnf);obtain ⟨x22,hx22,h⟩:=bd_some h;refine cC 0 (impl_NatIn_c hx22) ?_;clear hx22;(conv=>whnf);obtain ⟨x23,hx23,h⟩:=bd_some h;refine cC 0 (spec_NatIn_c hx23) ?_;clear hx23;(conv=>whnf);obtain rfl:=Option.some.inj h;exact lfP []
end Go.Proofs.Ytejhbiefhpgjeaa
