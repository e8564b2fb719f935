/-
  What some of the program's functions compute: their models, and that the functions compute these; no condition.
-/
import Derived.Test.YtejhbiefhpgjeaaTyz
import Derived.Test.YtejhbiefhpgjeaaTbz
import Derived.Test.YtejhbiefhpgjeaaKz1
set_option linter.all false
namespace Go.Proofs.Ytejhbiefhpgjeaa
open Go Go.Ab
set_option maxRecDepth 100000
set_option maxHeartbeats 40000000
noncomputable def spec_l25Spoil_m (a0:l21Rd) (a1:NatBook):Option (NatBook × l21Rd) :=
 bd (spec_l22Copy_m a1) fun x1 =>
 bd (spec_l21Rd_pick_m a0 (IntKind.i64.wrap (((x1.Doors.length:Nat):Int)+1))) fun x2 =>
 bd (spec_l21Rd_pick_m (⟨a0.b,x2.2.p⟩:l21Rd) (IntKind.i64.wrap (((x1.Entries.length:Nat):Int)+1))) fun x3 =>
 bd (α:=List NatDoor × List NatEntry × Int × Int × Int × Int × Int × Int × Int) (bd (spec_l21Rd_pick_m (⟨a0.b,x3.2.p⟩:l21Rd) 12) fun x7 =>
(if (x7.1 == 0) = true then
 bd (spec_l21Rd_pick_m (⟨a0.b,x7.2.p⟩:l21Rd) 4) fun x8 =>
 gd ((0:Int)≤x8.1∧x8.1<((([-1,IntKind.i64.wrap (x1.Addr+1),51200,65536]:List Int).length:Nat):Int)) <|
 some (x1.Doors,x1.Entries,(([-1,IntKind.i64.wrap (x1.Addr+1),51200,65536]:List Int).getD x8.1.toNat default),x1.Len,x1.Own,x1.Low,x1.High,x1.Now,x8.2.p)
else
(if (x7.1 == 1) = true then
 bd (spec_l21Rd_pick_m (⟨a0.b,x7.2.p⟩:l21Rd) 5) fun x10 =>
 gd ((0:Int)≤x10.1∧x10.1<((([-1,0,16,17,IntKind.i64.wrap (x1.Len - 1)]:List Int).length:Nat):Int)) <|
 some (x1.Doors,x1.Entries,x1.Addr,(([-1,0,16,17,IntKind.i64.wrap (x1.Len - 1)]:List Int).getD x10.1.toNat default),x1.Own,x1.Low,x1.High,x1.Now,x10.2.p)
else
(if (x7.1 == 2) = true then
 bd (spec_l21Rd_pick_m (⟨a0.b,x7.2.p⟩:l21Rd) 4) fun x12 =>
 gd ((0:Int)≤x12.1∧x12.1<((([-1,65536,x1.Addr,51202]:List Int).length:Nat):Int)) <|
 some (x1.Doors,x1.Entries,x1.Addr,x1.Len,(([-1,65536,x1.Addr,51202]:List Int).getD x12.1.toNat default),x1.Low,x1.High,x1.Now,x12.2.p)
else
(if (x7.1 == 3) = true then
 bd (spec_l21Rd_pick_m (⟨a0.b,x7.2.p⟩:l21Rd) 5) fun x14 =>
 gd ((0:Int)≤x14.1∧x14.1<((([0,x1.High,IntKind.i64.wrap (x1.High+1),1,30]:List Int).length:Nat):Int)) <|
 some (x1.Doors,x1.Entries,x1.Addr,x1.Len,x1.Own,(([0,x1.High,IntKind.i64.wrap (x1.High+1),1,30]:List Int).getD x14.1.toNat default),x1.High,x1.Now,x14.2.p)
else
(if (x7.1 == 4) = true then
 bd (spec_l21Rd_pick_m (⟨a0.b,x7.2.p⟩:l21Rd) 4) fun x16 =>
 gd ((0:Int)≤x16.1∧x16.1<((([x1.Low,IntKind.i64.wrap (x1.Low - 1),65535,65536]:List Int).length:Nat):Int)) <|
 some (x1.Doors,x1.Entries,x1.Addr,x1.Len,x1.Own,x1.Low,(([x1.Low,IntKind.i64.wrap (x1.Low - 1),65535,65536]:List Int).getD x16.1.toNat default),x1.Now,x16.2.p)
else
(if (x7.1 == 5) = true then
 bd (spec_l21Rd_pick_m (⟨a0.b,x7.2.p⟩:l21Rd) 6) fun x18 =>
 gd ((0:Int)≤x18.1∧x18.1<((([-1,0,1000000,1000001,IntKind.i64.wrap (x1.Now+8),IntKind.i64.wrap (x1.Now+12)]:List Int).length:Nat):Int)) <|
 some (x1.Doors,x1.Entries,x1.Addr,x1.Len,x1.Own,x1.Low,x1.High,(([-1,0,1000000,1000001,IntKind.i64.wrap (x1.Now+8),IntKind.i64.wrap (x1.Now+12)]:List Int).getD x18.1.toNat default),x18.2.p)
else
(if (x7.1 == 6) = true then
(if (decide (x2.1<((x1.Doors.length:Nat):Int))) = true then
 bd (spec_l21Rd_pick_m (⟨a0.b,x7.2.p⟩:l21Rd) 6) fun x20 =>
 gd ((0:Int)≤x20.1∧x20.1<((([0,x1.Low,IntKind.i64.wrap (x1.Low - 1),IntKind.i64.wrap (x1.High+1),65535,65536]:List Int).length:Nat):Int)) <|
 gd ((0:Int)≤x2.1∧x2.1<((x1.Doors.length:Nat):Int)) <|
 bd (some (x1.Doors.set x2.1.toNat ({ (x1.Doors.getD x2.1.toNat default) with Outer:=(([0,x1.Low,IntKind.i64.wrap (x1.Low - 1),IntKind.i64.wrap (x1.High+1),65535,65536]:List Int).getD x20.1.toNat default) }))) fun x23 =>
 some (x23,x1.Entries,x1.Addr,x1.Len,x1.Own,x1.Low,x1.High,x1.Now,x20.2.p)
else
 some (x1.Doors,x1.Entries,x1.Addr,x1.Len,x1.Own,x1.Low,x1.High,x1.Now,x7.2.p))
else
(if (x7.1 == 7) = true then
(if (decide (x2.1<((x1.Doors.length:Nat):Int))) = true then
 bd (spec_l21Rd_pick_m (⟨a0.b,x7.2.p⟩:l21Rd) 3) fun x24 =>
 gd ((0:Int)≤x24.1∧x24.1<((([x1.Addr,IntKind.i64.wrap (x1.Addr - 1),x1.Own]:List Int).length:Nat):Int)) <|
 gd ((0:Int)≤x2.1∧x2.1<((x1.Doors.length:Nat):Int)) <|
 bd (some (x1.Doors.set x2.1.toNat ({ (x1.Doors.getD x2.1.toNat default) with Inner:=(([x1.Addr,IntKind.i64.wrap (x1.Addr - 1),x1.Own]:List Int).getD x24.1.toNat default) }))) fun x27 =>
 bd (spec_l21Rd_pick_m (⟨a0.b,x24.2.p⟩:l21Rd) 4) fun x28 =>
 gd ((0:Int)≤x28.1∧x28.1<((([0,1,7,8]:List Int).length:Nat):Int)) <|
 gd ((0:Int)≤x2.1∧x2.1<((x1.Doors.length:Nat):Int)) <|
 bd (some (x27.set x2.1.toNat ({ (x27.getD x2.1.toNat default) with Kind:=(([0,1,7,8]:List Int).getD x28.1.toNat default) }))) fun x31 =>
 some (x31,x1.Entries,x1.Addr,x1.Len,x1.Own,x1.Low,x1.High,x1.Now,x28.2.p)
else
 some (x1.Doors,x1.Entries,x1.Addr,x1.Len,x1.Own,x1.Low,x1.High,x1.Now,x7.2.p))
else
(if (x7.1 == 8) = true then
(if (decide (x3.1<((x1.Entries.length:Nat):Int))) = true then
 bd (spec_l21Rd_pick_m (⟨a0.b,x7.2.p⟩:l21Rd) 3) fun x32 =>
 gd ((0:Int)≤x32.1∧x32.1<((([x1.Low,x1.High,IntKind.i64.wrap (x1.High+1)]:List Int).length:Nat):Int)) <|
 gd ((0:Int)≤x3.1∧x3.1<((x1.Entries.length:Nat):Int)) <|
 bd (some (x1.Entries.set x3.1.toNat ({ (x1.Entries.getD x3.1.toNat default) with Outer:=(([x1.Low,x1.High,IntKind.i64.wrap (x1.High+1)]:List Int).getD x32.1.toNat default) }))) fun x35 =>
 some (x1.Doors,x35,x1.Addr,x1.Len,x1.Own,x1.Low,x1.High,x1.Now,x32.2.p)
else
 some (x1.Doors,x1.Entries,x1.Addr,x1.Len,x1.Own,x1.Low,x1.High,x1.Now,x7.2.p))
else
(if (x7.1 == 9) = true then
(if (decide (x3.1<((x1.Entries.length:Nat):Int))) = true then
 bd (spec_l21Rd_pick_m (⟨a0.b,x7.2.p⟩:l21Rd) 5) fun x36 =>
 gd ((0:Int)≤x36.1∧x36.1<((([x1.Now,IntKind.i64.wrap (x1.Now+1),IntKind.i64.wrap (x1.Now - 11),IntKind.i64.wrap (x1.Now - 12),-1]:List Int).length:Nat):Int)) <|
 gd ((0:Int)≤x3.1∧x3.1<((x1.Entries.length:Nat):Int)) <|
 bd (some (x1.Entries.set x3.1.toNat ({ (x1.Entries.getD x3.1.toNat default) with Last:=(([x1.Now,IntKind.i64.wrap (x1.Now+1),IntKind.i64.wrap (x1.Now - 11),IntKind.i64.wrap (x1.Now - 12),-1]:List Int).getD x36.1.toNat default) }))) fun x39 =>
 some (x1.Doors,x39,x1.Addr,x1.Len,x1.Own,x1.Low,x1.High,x1.Now,x36.2.p)
else
 some (x1.Doors,x1.Entries,x1.Addr,x1.Len,x1.Own,x1.Low,x1.High,x1.Now,x7.2.p))
else
(if (x7.1 == 10) = true then
(if (decide (x3.1<((x1.Entries.length:Nat):Int))) = true then
 bd (spec_l21Rd_pick_m (⟨a0.b,x7.2.p⟩:l21Rd) 4) fun x40 =>
 gd ((0:Int)≤x40.1∧x40.1<((([x1.Own,x1.Addr,65535,65536]:List Int).length:Nat):Int)) <|
 gd ((0:Int)≤x3.1∧x3.1<((x1.Entries.length:Nat):Int)) <|
 bd (some (x1.Entries.set x3.1.toNat ({ (x1.Entries.getD x3.1.toNat default) with Peer:=(([x1.Own,x1.Addr,65535,65536]:List Int).getD x40.1.toNat default) }))) fun x43 =>
 gd ((0:Int)≤x3.1∧x3.1<((x1.Entries.length:Nat):Int)) <|
 gd (((x1.Entries.length)+(([(x43.getD x3.1.toNat default)]:List NatEntry).length)) * (56+1)≤70368744177664) <|
 some (x1.Doors,(x43 ++ ([(x43.getD x3.1.toNat default)]:List NatEntry)),x1.Addr,x1.Len,x1.Own,x1.Low,x1.High,x1.Now,x40.2.p)
else
 some (x1.Doors,x1.Entries,x1.Addr,x1.Len,x1.Own,x1.Low,x1.High,x1.Now,x7.2.p))
else
 bd (spec_l21Rd_pick_m (⟨a0.b,x7.2.p⟩:l21Rd) 2) fun x46 =>
 bd (lp (σ:=List NatEntry) (β:=((List NatEntry) × Nat)) (fun s47 =>
(if (decide (((s47.length:Nat):Int)<(IntKind.i64.wrap (16+x46.1)))) = true then
 gd (((s47.length)+(([(⟨7,IntKind.i64.wrap (53248+((s47.length:Nat):Int)),1,x1.Low,x1.Addr,1,x1.Now⟩:NatEntry)]:List NatEntry).length)) * (56+1)≤70368744177664) <|
 some (.inl (s47 ++ ([(⟨7,IntKind.i64.wrap (53248+((s47.length:Nat):Int)),1,x1.Low,x1.Addr,1,x1.Now⟩:NatEntry)]:List NatEntry)))
else
 some (.inr (s47,s47.length)))) x1.Entries) fun x50 =>
 some (x1.Doors,x50.1,x1.Addr,x1.Len,x1.Own,x1.Low,x1.High,x1.Now,x46.2.p))))))))))))) fun x4 =>
 some ((⟨x4.2.2.1,x4.2.2.2.1,x4.2.2.2.2.1,x4.2.2.2.2.2.1,x4.2.2.2.2.2.2.1,x4.1,x4.2.2.2.2.2.2.2.1,x4.2.1⟩:NatBook),(⟨a0.b,x4.2.2.2.2.2.2.2.2⟩:l21Rd))
theorem spec_l25Spoil_c {a0:l21Rd} {a1:NatBook} {r:NatBook × l21Rd} (h:spec_l25Spoil_m a0 a1 = some r):EffC Try.prog 116 [.ref 9000 0 0,.agg [.d (.int .i64 a1.Addr),.d (.int .i64 a1.Len),.d (.int .i64 a1.Own),.d (.int .i64 a1.Low),.d (.int .i64 a1.High),.d (slD NatDoor.enc a1.Doors),.d (.int .i64 a1.Now),.d (slD NatEntry.enc a1.Entries)]] [(9000,.box 155 [.d (slD encByte a0.b),.d (.int .i64 a0.p)])] (.agg [.d (.int .i64 r.1.Addr),.d (.int .i64 r.1.Len),.d (.int .i64 r.1.Own),.d (.int .i64 r.1.Low),.d (.int .i64 r.1.High),.osl 5001 0 r.1.Doors.length,.d (.int .i64 r.1.Now),.osl 5002 0 r.1.Entries.length]) [(9000,.box 155 [.d (slD encByte a0.b),.d (.int .i64 r.2.p)]),(5001,.arr 104 4 r.1.Doors.length (rows NatDoor.enc r.1.Doors)),(5002,.arr 65 7 r.1.Entries.length (rows NatEntry.enc r.1.Entries))]:=by
  refine effC_x tOk (fn:=Try.f116) (c:=codeOf Try.f116) rfl rfl ?_;unfold spec_l25Spoil_m at h;(conv=>whnf);obtain ⟨x1,hx1,h⟩:=bd_some h;refine cC 1000 (spec_l22Copy_c hx1) ?_;clear hx1;(conv=>whnf);obtain ⟨x2,hx2,h⟩:=bd_some h;refine cE [(9000,9000)] 0 (spec_l21Rd_pick_c hx2) ?_;(conv=>whnf);obtain ⟨x3,hx3,h⟩:=bd_some h;refine cE [(9000,9000)] 0 (spec_l21Rd_pick_c hx3) ?_;(conv=>whnf);obtain ⟨x4,hx4,h⟩:=bd_some h;refine seq_join tOk (fun s5=>⟨0,263,[(3,.ref 3 0 0),(4,.ref 4 0 0)],[],[(6002,.arr 65 7 s5.2.1.length (rows NatEntry.enc s5.2.1)),(6001,.arr 104 4 s5.1.length (rows NatDoor.enc s5.1)),(4,.box 56 [.d (.int .i64 0),.d (.int .i64 0),.d (.int .i64 0),.d (.int .i64 0),.d (.int .i64 0),.d (.nil),.d (.int .i64 0),.d (.nil)]),(3,.box 56 [.d (.int .i64 s5.2.2.1),.d (.int .i64 s5.2.2.2.1),.d (.int .i64 s5.2.2.2.2.1),.d (.int .i64 s5.2.2.2.2.2.1),.d (.int .i64 s5.2.2.2.2.2.2.1),.osl 6001 0 s5.1.length,.d (.int .i64 s5.2.2.2.2.2.2.2.1),.osl 6002 0 s5.2.1.length]),(9000,.box 155 [.d (slD encByte a0.b),.d (.int .i64 s5.2.2.2.2.2.2.2.2)])],[⟨[(0,.ref 9000 0 0)],[]⟩]⟩) (fun s5=>x4 = s5) ?_ ?_
  · (conv=>whnf);obtain ⟨x7,hx7,hx4⟩:=bd_some hx4;refine cE [(9000,9000)] 0 (spec_l21Rd_pick_c hx7) ?_;(conv=>whnf);refine andI hx4 (fun _ hx4=>?_) (fun _ hx4=>?_)
    · (conv=>whnf);obtain ⟨x8,hx8,hx4⟩:=bd_some hx4;obtain ⟨g9,hx4⟩:=gd_some hx4;refine draw_t tOk [.e 5 [(9000,.box 155 [.d (slD encByte a0.b),.d (.int .i64 x7.2.p)])] (.d (.int .i64 x8.1)) [] [(9000,.box 155 [.d (slD encByte a0.b),.d (.int .i64 x8.2.p)])]] 9 [] [0,1,3,7,0,16,63,127,255] [511] [9000] ?_;(conv=>whnf);refine bldS (enc:=encInt) ([-1,IntKind.i64.wrap (x1.Addr+1),51200,65536]:List Int) ?_;(conv=>whnf);refine And.intro (eD [(9000,9000)] 0 (spec_l21Rd_pick_c hx8)) ?_;(conv=>whnf);refine And.intro g9 ?_;clear g9;(conv=>whnf);refine And.intro (by kernel_rfl) ?_;(conv=>whnf);obtain rfl:=Option.some.inj hx4;exact ⟨_,rfl,leX []⟩
    · (conv=>whnf);refine andI hx4 (fun _ hx4=>?_) (fun _ hx4=>?_)
      · (conv=>whnf);obtain ⟨x10,hx10,hx4⟩:=bd_some hx4;obtain ⟨g11,hx4⟩:=gd_some hx4;refine draw_t tOk [.e 5 [(9000,.box 155 [.d (slD encByte a0.b),.d (.int .i64 x7.2.p)])] (.d (.int .i64 x10.1)) [] [(9000,.box 155 [.d (slD encByte a0.b),.d (.int .i64 x10.2.p)])]] 9 [] [0,1,3,7,0,16,63,127,255] [511] [9000] ?_;(conv=>whnf);refine bldS (enc:=encInt) ([-1,0,16,17,IntKind.i64.wrap (x1.Len - 1)]:List Int) ?_;(conv=>whnf);refine And.intro (eD [(9000,9000)] 0 (spec_l21Rd_pick_c hx10)) ?_;(conv=>whnf);refine And.intro g11 ?_;clear g11;(conv=>whnf);refine And.intro (by kernel_rfl) ?_;(conv=>whnf);obtain rfl:=Option.some.inj hx4;exact ⟨_,rfl,leX []⟩
      · (conv=>whnf);refine andI hx4 (fun _ hx4=>?_) (fun _ hx4=>?_)
        · (conv=>whnf);obtain ⟨x12,hx12,hx4⟩:=bd_some hx4;obtain ⟨g13,hx4⟩:=gd_some hx4;refine draw_t tOk [.e 4 [(9000,.box 155 [.d (slD encByte a0.b),.d (.int .i64 x7.2.p)])] (.d (.int .i64 x12.1)) [] [(9000,.box 155 [.d (slD encByte a0.b),.d (.int .i64 x12.2.p)])]] 8 [] [0,1,3,0,8,31,63,127] [255] [9000] ?_;(conv=>whnf);refine bldS (enc:=encInt) ([-1,65536,x1.Addr,51202]:List Int) ?_;(conv=>whnf);refine And.intro (eD [(9000,9000)] 0 (spec_l21Rd_pick_c hx12)) ?_;(conv=>whnf);refine And.intro g13 ?_;clear g13;(conv=>whnf);refine And.intro (by kernel_rfl) ?_;(conv=>whnf);obtain rfl:=Option.some.inj hx4;exact ⟨_,rfl,leX []⟩
        · (conv=>whnf);refine andI hx4 (fun _ hx4=>?_) (fun _ hx4=>?_)
          · (conv=>whnf);obtain ⟨x14,hx14,hx4⟩:=bd_some hx4;obtain ⟨g15,hx4⟩:=gd_some hx4;refine draw_t tOk [.e 7 [(9000,.box 155 [.d (slD encByte a0.b),.d (.int .i64 x7.2.p)])] (.d (.int .i64 x14.1)) [] [(9000,.box 155 [.d (slD encByte a0.b),.d (.int .i64 x14.2.p)])]] 11 [] [0,1,0,4,12,31,0,64,255,511,1023] [2047] [9000] ?_;(conv=>whnf);refine bldS (enc:=encInt) ([0,x1.High,IntKind.i64.wrap (x1.High+1),1,30]:List Int) ?_;(conv=>whnf);refine And.intro (eD [(9000,9000)] 0 (spec_l21Rd_pick_c hx14)) ?_;(conv=>whnf);refine And.intro g15 ?_;clear g15;(conv=>whnf);refine And.intro (by kernel_rfl) ?_;(conv=>whnf);obtain rfl:=Option.some.inj hx4;exact ⟨_,rfl,leX []⟩
          · (conv=>whnf);refine andI hx4 (fun _ hx4=>?_) (fun _ hx4=>?_)
            · (conv=>whnf);obtain ⟨x16,hx16,hx4⟩:=bd_some hx4;obtain ⟨g17,hx4⟩:=gd_some hx4;refine draw_t tOk [.e 7 [(9000,.box 155 [.d (slD encByte a0.b),.d (.int .i64 x7.2.p)])] (.d (.int .i64 x16.1)) [] [(9000,.box 155 [.d (slD encByte a0.b),.d (.int .i64 x16.2.p)])]] 11 [] [0,1,0,4,12,31,0,64,255,511,1023] [2047] [9000] ?_;(conv=>whnf);refine bldS (enc:=encInt) ([x1.Low,IntKind.i64.wrap (x1.Low - 1),65535,65536]:List Int) ?_;(conv=>whnf);refine And.intro (eD [(9000,9000)] 0 (spec_l21Rd_pick_c hx16)) ?_;(conv=>whnf);refine And.intro g17 ?_;clear g17;(conv=>whnf);refine And.intro (by kernel_rfl) ?_;(conv=>whnf);obtain rfl:=Option.some.inj hx4;exact ⟨_,rfl,leX []⟩
            · (conv=>whnf);refine andI hx4 (fun _ hx4=>?_) (fun _ hx4=>?_)
              · (conv=>whnf);obtain ⟨x18,hx18,hx4⟩:=bd_some hx4;obtain ⟨g19,hx4⟩:=gd_some hx4;refine draw_t tOk [.e 8 [(9000,.box 155 [.d (slD encByte a0.b),.d (.int .i64 x7.2.p)])] (.d (.int .i64 x18.1)) [] [(9000,.box 155 [.d (slD encByte a0.b),.d (.int .i64 x18.2.p)])]] 12 [] [0,1,3,0,8,24,63,0,128,511,1023,2047] [4095] [9000] ?_;(conv=>whnf);refine bldS (enc:=encInt) ([-1,0,1000000,1000001,IntKind.i64.wrap (x1.Now+8),IntKind.i64.wrap (x1.Now+12)]:List Int) ?_;(conv=>whnf);refine And.intro (eD [(9000,9000)] 0 (spec_l21Rd_pick_c hx18)) ?_;(conv=>whnf);refine And.intro g19 ?_;clear g19;(conv=>whnf);refine And.intro (by kernel_rfl) ?_;(conv=>whnf);obtain rfl:=Option.some.inj hx4;exact ⟨_,rfl,leX []⟩
              · (conv=>whnf);refine andI hx4 (fun _ hx4=>?_) (fun _ hx4=>?_)
                · (conv=>whnf);refine andI hx4 (fun _ hx4=>?_) (fun _ hx4=>?_)
                  · (conv=>whnf);obtain ⟨x20,hx20,hx4⟩:=bd_some hx4;obtain ⟨g21,hx4⟩:=gd_some hx4;obtain ⟨g22,hx4⟩:=gd_some hx4;refine draw_t tOk [.e 13 [(9000,.box 155 [.d (slD encByte a0.b),.d (.int .i64 x7.2.p)])] (.d (.int .i64 x20.1)) [] [(9000,.box 155 [.d (slD encByte a0.b),.d (.int .i64 x20.2.p)])]] 18 [] [0,1,0,0,8,0,32,96,0,256,768,2040,0,4096,16376,32760,65535,131071] [262143] [9000] ?_;(conv=>whnf);refine bldS (enc:=encInt) ([0,x1.Low,IntKind.i64.wrap (x1.Low - 1),IntKind.i64.wrap (x1.High+1),65535,65536]:List Int) ?_;(conv=>whnf);refine And.intro (eD [(9000,9000)] 0 (spec_l21Rd_pick_c hx20)) ?_;(conv=>whnf);refine And.intro g21 ?_;clear g21;(conv=>whnf);refine And.intro g22 ?_;clear g22;(conv=>whnf);refine And.intro (by kernel_rfl) ?_;(conv=>whnf);obtain ⟨x23,hx23,hlx23,hx4⟩:=bd_set hx4;refine setS (enc:=NatDoor.enc) hx23 ?_;(conv=>whnf);obtain rfl:=Option.some.inj hx4;exact ⟨_,rfl,leX []⟩
                  · (conv=>whnf);obtain rfl:=Option.some.inj hx4;exact ⟨_,rfl,leX []⟩
                · (conv=>whnf);refine andI hx4 (fun _ hx4=>?_) (fun _ hx4=>?_)
                  · (conv=>whnf);refine andI hx4 (fun _ hx4=>?_) (fun _ hx4=>?_)
                    · (conv=>whnf);obtain ⟨x24,hx24,hx4⟩:=bd_some hx4;obtain ⟨g25,hx4⟩:=gd_some hx4;obtain ⟨g26,hx4⟩:=gd_some hx4;refine draw_t tOk [.e 12 [(9000,.box 155 [.d (slD encByte a0.b),.d (.int .i64 x7.2.p)])] (.d (.int .i64 x24.1)) [] [(9000,.box 155 [.d (slD encByte a0.b),.d (.int .i64 x24.2.p)])]] 17 [] [0,1,0,0,8,0,32,96,0,256,1016,0,2048,8184,16376,32767,65535] [131071] [9000] ?_;(conv=>whnf);refine bldS (enc:=encInt) ([x1.Addr,IntKind.i64.wrap (x1.Addr - 1),x1.Own]:List Int) ?_;(conv=>whnf);refine And.intro (eD [(9000,9000)] 0 (spec_l21Rd_pick_c hx24)) ?_;(conv=>whnf);refine And.intro g25 ?_;clear g25;(conv=>whnf);refine And.intro g26 ?_;clear g26;(conv=>whnf);refine And.intro (by kernel_rfl) ?_;(conv=>whnf);obtain ⟨x27,hx27,hlx27,hx4⟩:=bd_set hx4;refine setS (enc:=NatDoor.enc) hx27 ?_;(conv=>whnf);obtain ⟨x28,hx28,hx4⟩:=bd_some hx4;obtain ⟨g29,hx4⟩:=gd_some hx4;obtain ⟨g30,hx4⟩:=gd_some hx4;refine draw_t tOk [.e 5 [(9000,.box 155 [.d (slD encByte a0.b),.d (.int .i64 x24.2.p)])] (.d (.int .i64 x28.1)) [] [(9000,.box 155 [.d (slD encByte a0.b),.d (.int .i64 x28.2.p)])]] 10 [] [0,1,0,0,0,16,56,120,255,511] [1023] [9000] ?_;(conv=>whnf);refine bldS (enc:=encInt) ([0,1,7,8]:List Int) ?_;(conv=>whnf);refine And.intro (eD [(9000,9000)] 0 (spec_l21Rd_pick_c hx28)) ?_;(conv=>whnf);refine And.intro g29 ?_;clear g29;(conv=>whnf);refine And.intro g30 ?_;clear g30;(conv=>whnf);refine And.intro (by kernel_rfl) ?_;(conv=>whnf);obtain ⟨x31,hx31,hlx31,hx4⟩:=bd_set hx4;refine setS (enc:=NatDoor.enc) hx31 ?_;(conv=>whnf);obtain rfl:=Option.some.inj hx4;exact ⟨_,rfl,leX []⟩
                    · (conv=>whnf);obtain rfl:=Option.some.inj hx4;exact ⟨_,rfl,leX []⟩
                  · (conv=>whnf);refine andI hx4 (fun _ hx4=>?_) (fun _ hx4=>?_)
                    · (conv=>whnf);refine andI hx4 (fun _ hx4=>?_) (fun _ hx4=>?_)
                      · (conv=>whnf);obtain ⟨x32,hx32,hx4⟩:=bd_some hx4;obtain ⟨g33,hx4⟩:=gd_some hx4;obtain ⟨g34,hx4⟩:=gd_some hx4;refine draw_t tOk [.e 12 [(9000,.box 155 [.d (slD encByte a0.b),.d (.int .i64 x7.2.p)])] (.d (.int .i64 x32.1)) [] [(9000,.box 155 [.d (slD encByte a0.b),.d (.int .i64 x32.2.p)])]] 17 [] [0,1,0,0,8,0,32,0,128,384,1016,0,2048,8184,16376,32767,65535] [131071] [9000] ?_;(conv=>whnf);refine bldS (enc:=encInt) ([x1.Low,x1.High,IntKind.i64.wrap (x1.High+1)]:List Int) ?_;(conv=>whnf);refine And.intro (eD [(9000,9000)] 0 (spec_l21Rd_pick_c hx32)) ?_;(conv=>whnf);refine And.intro g33 ?_;clear g33;(conv=>whnf);refine And.intro g34 ?_;clear g34;(conv=>whnf);refine And.intro (by kernel_rfl) ?_;(conv=>whnf);obtain ⟨x35,hx35,hlx35,hx4⟩:=bd_set hx4;refine setS (enc:=NatEntry.enc) hx35 ?_;(conv=>whnf);obtain rfl:=Option.some.inj hx4;exact ⟨_,rfl,leX []⟩
                      · (conv=>whnf);obtain rfl:=Option.some.inj hx4;exact ⟨_,rfl,leX []⟩
                    · (conv=>whnf);refine andI hx4 (fun _ hx4=>?_) (fun _ hx4=>?_)
                      · (conv=>whnf);refine andI hx4 (fun _ hx4=>?_) (fun _ hx4=>?_)
                        · (conv=>whnf);obtain ⟨x36,hx36,hx4⟩:=bd_some hx4;obtain ⟨g37,hx4⟩:=gd_some hx4;obtain ⟨g38,hx4⟩:=gd_some hx4;refine draw_t tOk [.e 16 [(9000,.box 155 [.d (slD encByte a0.b),.d (.int .i64 x7.2.p)])] (.d (.int .i64 x36.1)) [] [(9000,.box 155 [.d (slD encByte a0.b),.d (.int .i64 x36.2.p)])]] 21 [] [0,1,0,0,8,0,32,96,0,256,768,0,2048,6144,16376,0,32768,131064,262136,524287,1048575] [2097151] [9000] ?_;(conv=>whnf);refine bldS (enc:=encInt) ([x1.Now,IntKind.i64.wrap (x1.Now+1),IntKind.i64.wrap (x1.Now - 11),IntKind.i64.wrap (x1.Now - 12),-1]:List Int) ?_;(conv=>whnf);refine And.intro (eD [(9000,9000)] 0 (spec_l21Rd_pick_c hx36)) ?_;(conv=>whnf);refine And.intro g37 ?_;clear g37;(conv=>whnf);refine And.intro g38 ?_;clear g38;(conv=>whnf);refine And.intro (by kernel_rfl) ?_;(conv=>whnf);obtain ⟨x39,hx39,hlx39,hx4⟩:=bd_set hx4;refine setS (enc:=NatEntry.enc) hx39 ?_;(conv=>whnf);obtain rfl:=Option.some.inj hx4;exact ⟨_,rfl,leX []⟩
                        · (conv=>whnf);obtain rfl:=Option.some.inj hx4;exact ⟨_,rfl,leX []⟩
                      · (conv=>whnf);refine andI hx4 (fun _ hx4=>?_) (fun _ hx4=>?_)
                        · (conv=>whnf);refine andI hx4 (fun _ hx4=>?_) (fun _ hx4=>?_)
                          · (conv=>whnf);obtain ⟨x40,hx40,hx4⟩:=bd_some hx4;obtain ⟨g41,hx4⟩:=gd_some hx4;obtain ⟨g42,hx4⟩:=gd_some hx4;refine draw_t tOk [.e 9 [(9000,.box 155 [.d (slD encByte a0.b),.d (.int .i64 x7.2.p)])] (.d (.int .i64 x40.1)) [] [(9000,.box 155 [.d (slD encByte a0.b),.d (.int .i64 x40.2.p)])]] 14 [] [0,1,0,0,8,0,32,120,0,256,1016,2040,4095,8191] [16383] [9000] ?_;(conv=>whnf);refine bldS (enc:=encInt) ([x1.Own,x1.Addr,65535,65536]:List Int) ?_;(conv=>whnf);refine And.intro (eD [(9000,9000)] 0 (spec_l21Rd_pick_c hx40)) ?_;(conv=>whnf);refine And.intro g41 ?_;clear g41;(conv=>whnf);refine And.intro g42 ?_;clear g42;(conv=>whnf);refine And.intro (by kernel_rfl) ?_;(conv=>whnf);obtain ⟨x43,hx43,hlx43,hx4⟩:=bd_set hx4;refine setS (enc:=NatEntry.enc) hx43 ?_;(conv=>whnf);obtain ⟨g44,hx4⟩:=gd_some hx4;refine draw_u tOk [] 8 [] [0,1,0,4,0,28,60,124] [255,511,1023] ?_;(conv=>whnf);refine And.intro g44 ?_;clear g44;(conv=>whnf);refine bldS (enc:=NatEntry.enc) ([(x43.getD x3.1.toNat default)]:List NatEntry) ?_;(conv=>whnf);refine And.intro (by kernel_rfl) ?_;(conv=>whnf);refine gdI hx4 (fun hx4=>?_);refine appS (enc:=NatEntry.enc) (xs:=x43) (ys:=([(x43.getD x3.1.toNat default)]:List NatEntry)) ?_;(conv=>whnf);obtain rfl:=Option.some.inj hx4;exact ⟨_,rfl,leX []⟩
                          · (conv=>whnf);obtain rfl:=Option.some.inj hx4;exact ⟨_,rfl,leX []⟩
                        · (conv=>whnf);obtain ⟨x46,hx46,hx4⟩:=bd_some hx4;refine cE [(9000,9000)] 0 (spec_l21Rd_pick_c hx46) ?_;(conv=>whnf);obtain ⟨x50,hx50,hx4⟩:=bd_some hx4;refine loop_m tOk hx50 (fun s47=>⟨0,263,[(3,.ref 3 0 0),(4,.ref 4 0 0),(7,.d (.int .i64 (IntKind.i64.wrap (16+x46.1))))],[],[(6002,.arr 65 7 s47.length (rows NatEntry.enc s47)),(6001,.arr 104 4 x1.Doors.length (rows NatDoor.enc x1.Doors)),(4,.box 56 [.d (.int .i64 0),.d (.int .i64 0),.d (.int .i64 0),.d (.int .i64 0),.d (.int .i64 0),.d (.nil),.d (.int .i64 0),.d (.nil)]),(3,.box 56 [.d (.int .i64 x1.Addr),.d (.int .i64 x1.Len),.d (.int .i64 x1.Own),.d (.int .i64 x1.Low),.d (.int .i64 x1.High),.osl 6001 0 x1.Doors.length,.d (.int .i64 x1.Now),.osl 6002 0 s47.length]),(9000,.box 155 [.d (slD encByte a0.b),.d (.int .i64 x46.2.p)])],[⟨[(0,.ref 9000 0 0)],[]⟩]⟩) ?_ ?_
                          · exact leX []
                          · clear hx50;intro s47 y48 g49 hy48;(conv=>whnf);refine seq_in tOk ?_;(conv=>whnf);refine andI g49 (fun _ g49=>?_) (fun _ g49=>?_)
                            · (conv=>whnf);refine bldS (enc:=NatEntry.enc) ([(⟨7,IntKind.i64.wrap (53248+((s47.length:Nat):Int)),1,x1.Low,x1.Addr,1,x1.Now⟩:NatEntry)]:List NatEntry) ?_;(conv=>whnf);refine gdI g49 (fun g49=>?_);refine appS (enc:=NatEntry.enc) (xs:=s47) (ys:=([(⟨7,IntKind.i64.wrap (53248+((s47.length:Nat):Int)),1,x1.Low,x1.Addr,1,x1.Now⟩:NatEntry)]:List NatEntry)) ?_;(conv=>whnf);obtain rfl:=Option.some.inj g49;exact ⟨_,rfl,leX []⟩
                            · (conv=>whnf);obtain rfl:=Option.some.inj g49;obtain rfl:=hy48 _ rfl;obtain rfl:=Option.some.inj hx4;exact ⟨_,rfl,leX []⟩
  · rintro _ rfl;(conv=>whnf);obtain rfl:=Option.some.inj h;exact lfE [.s [(5001,6001),(5002,6002),(6001,5001),(6002,5002)]]
noncomputable def spec_l25Any_m (a0:l21Rd):Option (NatBook × l21Rd) :=
 bd (spec_l25Book_m a0) fun x1 =>
 bd (spec_l21Rd_pick_m (⟨a0.b,x1.2.p⟩:l21Rd) 24) fun x2 =>
(if (x2.1 == 0) = true then
 bd (spec_l25Spoil_m (⟨a0.b,x2.2.p⟩:l21Rd) x1.1) fun x3 =>
 some (x3.1,(⟨a0.b,x3.2.p⟩:l21Rd))
else
 some (x1.1,(⟨a0.b,x2.2.p⟩:l21Rd)))
theorem spec_l25Any_c {a0:l21Rd} {r:NatBook × l21Rd} (h:spec_l25Any_m a0 = some r):EffC Try.prog 61 [.ref 9000 0 0] [(9000,.box 155 [.d (slD encByte a0.b),.d (.int .i64 a0.p)])] (.agg [.d (.int .i64 r.1.Addr),.d (.int .i64 r.1.Len),.d (.int .i64 r.1.Own),.d (.int .i64 r.1.Low),.d (.int .i64 r.1.High),.d (slD NatDoor.enc r.1.Doors),.d (.int .i64 r.1.Now),.d (slD NatEntry.enc r.1.Entries)]) [(9000,.box 155 [.d (slD encByte a0.b),.d (.int .i64 r.2.p)])]:=by
  refine effC_x tOk (fn:=Try.f61) (c:=codeOf Try.f61) rfl rfl ?_;unfold spec_l25Any_m at h;(conv=>whnf);obtain ⟨x1,hx1,h⟩:=bd_some h;refine cE [(9000,9000)] 0 (spec_l25Book_c hx1) ?_;(conv=>whnf);refine seq_in tOk ?_;(conv=>whnf);obtain ⟨x2,hx2,h⟩:=bd_some h;refine cE [(9000,9000)] 0 (spec_l21Rd_pick_c hx2) ?_;(conv=>whnf);refine andI h (fun _ h=>?_) (fun _ h=>?_)
  · (conv=>whnf);obtain ⟨x3,hx3,h⟩:=bd_some h;refine cE [(9000,9000)] 1000 (spec_l25Spoil_c hx3) ?_;(conv=>whnf);obtain rfl:=Option.some.inj h;exact lfE [.f [6001,6002]]
  · (conv=>whnf);obtain rfl:=Option.some.inj h;exact lfE []
noncomputable def spec_DrawNatTick_m (a0:(List Int)):Option (NatBook) :=
 bd (spec_l21Open_m a0) fun x1 =>
 bd (spec_l25Any_m x1) fun x2 =>
 some x2.1
theorem spec_DrawNatTick_c {a0:(List Int)} {r:NatBook} (h:spec_DrawNatTick_m a0 = some r):EffC Try.prog 24 [.d (slD encByte a0)] [] (.agg [.d (.int .i64 r.Addr),.d (.int .i64 r.Len),.d (.int .i64 r.Own),.d (.int .i64 r.Low),.d (.int .i64 r.High),.d (slD NatDoor.enc r.Doors),.d (.int .i64 r.Now),.d (slD NatEntry.enc r.Entries)]) []:=by
  refine effC_x tOk (fn:=Try.f24) (c:=codeOf Try.f24) rfl rfl ?_;unfold spec_DrawNatTick_m at h;(conv=>whnf);obtain ⟨x1,hx1,h⟩:=bd_some h;refine cE [] 1000 (spec_l21Open_c hx1) ?_;(conv=>whnf);obtain ⟨x2,hx2,h⟩:=bd_some h;refine cE [(9000,6001)] 0 (spec_l25Any_c hx2) ?_;(conv=>whnf);obtain rfl:=Option.some.inj h;exact lfE []
noncomputable def impl_within_m (a0:Int) (a1:Int) (a2:Int):Option (Bool) :=
 some ((decide (a1≤a0)) && (decide (a0≤a2)))
theorem impl_within_c {a0:Int} {a1:Int} {a2:Int} {r:Bool} (h:impl_within_m a0 a1 a2 = some r):PureC Try.prog 93 [.d (.int .i64 a0),.d (.int .i64 a1),.d (.int .i64 a2)] (.d (.bool r)) []:=by
  refine pureC_x tOk (fn:=Try.f93) (c:=codeOf Try.f93) rfl rfl ?_;unfold impl_within_m at h;(conv=>whnf);obtain rfl:=Option.some.inj h;exact lfP []
noncomputable def impl_NetPrefix_size_m (a0:NetPrefix):Option (Int) :=
 gd ((0:Int)≤(IntKind.i64.wrap (16 - a0.Len))) <|
 some (IntKind.i64.wrap (1 * 2 ^ min (IntKind.i64.wrap (16 - a0.Len):Int).toNat IntKind.i64.bits))
theorem impl_NetPrefix_size_c {a0:NetPrefix} {r:Int} (h:impl_NetPrefix_size_m a0 = some r):PureC Try.prog 150 [.agg [.d (.int .i64 a0.Addr),.d (.int .i64 a0.Len)]] (.d (.int .i64 r)) []:=by
  refine pureC_x tOk (fn:=Try.f150) (c:=codeOf Try.f150) rfl rfl ?_;unfold impl_NetPrefix_size_m at h;(conv=>whnf);refine gdI h (fun h=>?_);(conv=>whnf);obtain rfl:=Option.some.inj h;exact lfP []
noncomputable def impl_NetOk_m (a0:NetPrefix):Option (Bool) :=
 bd (impl_within_m a0.Len 0 16) fun x1 =>
 bd (gcall (x1 = true) (impl_within_m a0.Addr 0 65535)) fun x2 =>
 bd (gcall ((x1 && x2) = true) (impl_NetPrefix_size_m a0)) fun x3 =>
 gd ((x1 && x2) = true → ((x3:Int) ≠ 0)) <|
 some ((x1 && x2) && (((a0.Addr:Int).tmod x3) == 0))
theorem impl_NetOk_c {a0:NetPrefix} {r:Bool} (h:impl_NetOk_m a0 = some r):PureC Try.prog 107 [.agg [.d (.int .i64 a0.Addr),.d (.int .i64 a0.Len)]] (.d (.bool r)) []:=by
  refine pureC_x tOk (fn:=Try.f107) (c:=codeOf Try.f107) rfl rfl ?_;unfold impl_NetOk_m at h;(conv=>whnf);obtain ⟨x1,hx1,h⟩:=bd_some h;obtain ⟨x2,hx2,h⟩:=bd_some h;obtain ⟨x3,hx3,h⟩:=bd_some h;obtain ⟨g4,h⟩:=gd_some h;refine draw_u tOk [.u 2 0 (.d (.bool x1)) [],.u 6 0 (.d (.bool x2)) [],.u 12 0 (.d (.int .i64 x3)) []] 17 [] [0,1,3,7,15,31,63,127,255,511,1023,511,2559,8191,16383,32767,65535] [] ?_;(conv=>whnf);refine And.intro (callD_any (impl_within_c hx1) (by kernel_rfl)) ?_;(conv=>whnf);refine And.intro (callDG_if rfl rfl rfl rfl (by intro c0; exact impl_within_c (gcall_some hx2 c0))) ?_;(conv=>whnf);refine And.intro (callDG_if rfl rfl rfl rfl (by intro c0; exact impl_NetPrefix_size_c (gcall_some hx3 c0))) ?_;(conv=>whnf);refine And.intro g4 ?_;clear g4;(conv=>whnf);refine And.intro (by kernel_rfl) ?_;(conv=>whnf);obtain rfl:=Option.some.inj h;exact lfP []
noncomputable def impl_NetPrefix_last_m (a0:NetPrefix):Option (Int) :=
 bd (impl_NetPrefix_size_m a0) fun x1 =>
 some (IntKind.i64.wrap ((IntKind.i64.wrap (a0.Addr+x1)) - 1))
theorem impl_NetPrefix_last_c {a0:NetPrefix} {r:Int} (h:impl_NetPrefix_last_m a0 = some r):PureC Try.prog 156 [.agg [.d (.int .i64 a0.Addr),.d (.int .i64 a0.Len)]] (.d (.int .i64 r)) []:=by
  refine pureC_x tOk (fn:=Try.f156) (c:=codeOf Try.f156) rfl rfl ?_;unfold impl_NetPrefix_last_m at h;(conv=>whnf);obtain ⟨x1,hx1,h⟩:=bd_some h;refine draw_u tOk [.u 3 0 (.d (.int .i64 x1)) []] 7 [] [0,1,0,4,15,31,63] [] ?_;(conv=>whnf);refine And.intro (callD_any (impl_NetPrefix_size_c hx1) (by kernel_rfl)) ?_;(conv=>whnf);refine And.intro (by kernel_rfl) ?_;(conv=>whnf);obtain rfl:=Option.some.inj h;exact lfP []
noncomputable def impl_NetPrefix_has_m (a0:NetPrefix) (a1:Int):Option (Bool) :=
 bd (impl_NetPrefix_last_m a0) fun x1 =>
 bd (impl_within_m a1 a0.Addr x1) fun x2 =>
 some x2
theorem impl_NetPrefix_has_c {a0:NetPrefix} {a1:Int} {r:Bool} (h:impl_NetPrefix_has_m a0 a1 = some r):PureC Try.prog 117 [.agg [.d (.int .i64 a0.Addr),.d (.int .i64 a0.Len)],.d (.int .i64 a1)] (.d (.bool r)) []:=by
  refine pureC_x tOk (fn:=Try.f117) (c:=codeOf Try.f117) rfl rfl ?_;unfold impl_NetPrefix_has_m at h;(conv=>whnf);obtain ⟨x1,hx1,h⟩:=bd_some h;obtain ⟨x2,hx2,h⟩:=bd_some h;refine draw_u tOk [.u 4 0 (.d (.int .i64 x1)) [],.u 5 0 (.d (.bool x2)) []] 7 [] [0,0,2,0,8,31,63] [] ?_;(conv=>whnf);refine And.intro (callD_any (impl_NetPrefix_last_c hx1) (by kernel_rfl)) ?_;(conv=>whnf);refine And.intro (callD_any (impl_within_c hx2) (by kernel_rfl)) ?_;(conv=>whnf);refine And.intro (by kernel_rfl) ?_;(conv=>whnf);obtain rfl:=Option.some.inj h;exact lfP []
noncomputable def impl_NatBook_inside_m (a0:NatBook) (a1:Int):Option (Bool) :=
 bd (impl_NetPrefix_has_m (⟨a0.Addr,a0.Len⟩:NetPrefix) a1) fun x1 =>
 some x1
theorem impl_NatBook_inside_c {a0:NatBook} {a1:Int} {r:Bool} (h:impl_NatBook_inside_m a0 a1 = some r):PureC Try.prog 64 [.agg [.d (.int .i64 a0.Addr),.d (.int .i64 a0.Len),.d (.int .i64 a0.Own),.d (.int .i64 a0.Low),.d (.int .i64 a0.High),.d (slD NatDoor.enc a0.Doors),.d (.int .i64 a0.Now),.d (slD NatEntry.enc a0.Entries)],.d (.int .i64 a1)] (.d (.bool r)) []:=by
  refine pureC_x tOk (fn:=Try.f64) (c:=codeOf Try.f64) rfl rfl ?_;unfold impl_NatBook_inside_m at h;(conv=>whnf);obtain ⟨x1,hx1,h⟩:=bd_some h;refine cC 0 (impl_NetPrefix_has_c hx1) ?_;clear hx1;(conv=>whnf);obtain rfl:=Option.some.inj h;exact lfP []
noncomputable def cmp_isNaN_int_m (a0:Int):Option (Bool) :=
 some (a0 != a0)
theorem cmp_isNaN_int_c {a0:Int} {r:Bool} (h:cmp_isNaN_int_m a0 = some r):PureC Try.prog 167 [.d (.int .i64 a0)] (.d (.bool r)) []:=by
  refine pureC_x tOk (fn:=Try.f167) (c:=codeOf Try.f167) rfl rfl ?_;unfold cmp_isNaN_int_m at h;(conv=>whnf);obtain rfl:=Option.some.inj h;exact lfP []
noncomputable def cmp_Compare_int_m (a0:Int) (a1:Int):Option (Int) :=
 bd (cmp_isNaN_int_m a0) fun x1 =>
 bd (cmp_isNaN_int_m a1) fun x2 =>
(if x1 = true then
(if x2 = true then
 some 0
else
 some (-1))
else
(if x2 = true then
 some 1
else
(if (decide (a0<a1)) = true then
 some (-1)
else
(if (decide (a0 > a1)) = true then
 some 1
else
 some 0))))
theorem cmp_Compare_int_c {a0:Int} {a1:Int} {r:Int} (h:cmp_Compare_int_m a0 a1 = some r):PureC Try.prog 152 [.d (.int .i64 a0),.d (.int .i64 a1)] (.d (.int .i64 r)) []:=by
  refine pureC_x tOk (fn:=Try.f152) (c:=codeOf Try.f152) rfl rfl ?_;unfold cmp_Compare_int_m at h;(conv=>whnf);obtain ⟨x1,hx1,h⟩:=bd_some h;refine cC 0 (cmp_isNaN_int_c hx1) ?_;clear hx1;(conv=>whnf);obtain ⟨x2,hx2,h⟩:=bd_some h;refine cC 0 (cmp_isNaN_int_c hx2) ?_;clear hx2;(conv=>whnf);refine seq_in tOk ?_;(conv=>whnf);refine andI h (fun _ h=>?_) (fun _ h=>?_)
  · (conv=>whnf);refine seq_in tOk ?_;(conv=>whnf);refine andI h (fun _ h=>?_) (fun _ h=>?_)
    · (conv=>whnf);obtain rfl:=Option.some.inj h;exact lfP []
    · (conv=>whnf);obtain rfl:=Option.some.inj h;exact lfP []
  · (conv=>whnf);refine seq_in tOk ?_;(conv=>whnf);refine andI h (fun _ h=>?_) (fun _ h=>?_)
    · (conv=>whnf);obtain rfl:=Option.some.inj h;exact lfP []
    · (conv=>whnf);refine seq_in tOk ?_;(conv=>whnf);refine andI h (fun _ h=>?_) (fun _ h=>?_)
      · (conv=>whnf);obtain rfl:=Option.some.inj h;exact lfP []
      · (conv=>whnf);refine seq_in tOk ?_;(conv=>whnf);refine andI h (fun _ h=>?_) (fun _ h=>?_)
        · (conv=>whnf);obtain rfl:=Option.some.inj h;exact lfP []
        · (conv=>whnf);obtain rfl:=Option.some.inj h;exact lfP []
noncomputable def cmp_Or_int_m (a0:(List Int)):Option (Int) :=
 bd (lp (σ:=Int) (β:=(Int ⊕ Unit)) (fun s1 =>
(if (decide (s1<((a0.length:Nat):Int))) = true then
 gd ((0:Int)≤s1∧s1<((a0.length:Nat):Int)) <|
(if ((a0.getD s1.toNat default) != 0) = true then
 some (.inr (.inl (a0.getD s1.toNat default)))
else
 some (.inl (IntKind.i64.wrap (s1+1))))
else
 some (.inr (.inr ())))) 0) fun x4 =>
(match x4 with
| .inl d6 =>
 some d6
| .inr d7 =>
 some 0)
theorem cmp_Or_int_c {a0:(List Int)} {r:Int} (h:cmp_Or_int_m a0 = some r):PureC Try.prog 151 [.d (slD encInt a0)] (.d (.int .i64 r)) []:=by
  refine pureC_x tOk (fn:=Try.f151) (c:=codeOf Try.f151) rfl rfl ?_;unfold cmp_Or_int_m at h;(conv=>whnf);refine seq_in tOk ?_;(conv=>whnf);obtain ⟨x4,hx4,h⟩:=bd_some h;refine loop_m tOk hx4 (fun s1=>⟨0,18,[(3,.d (.int .i64 0)),(6,.d (slD encInt a0)),(7,.d (.int .i64 ((a0.length:Nat):Int))),(8,.d (.int .i64 s1))],[],[],[]⟩) ?_ ?_
  · exact leX []
  · clear hx4;intro s1 y2 g3 hy2;(conv=>whnf);refine seq_in tOk ?_;(conv=>whnf);refine andI g3 (fun _ g3=>?_) (fun _ g3=>?_)
    · (conv=>whnf);refine seq_in tOk ?_;(conv=>whnf);refine gdI g3 (fun g3=>?_);(conv=>whnf);refine andI g3 (fun _ g3=>?_) (fun _ g3=>?_)
      · (conv=>whnf);obtain rfl:=Option.some.inj g3;obtain rfl:=hy2 _ rfl;obtain rfl:=Option.some.inj h;exact lfP []
      · (conv=>whnf);obtain rfl:=Option.some.inj g3;exact ⟨_,rfl,leX []⟩
    · (conv=>whnf);obtain rfl:=Option.some.inj g3;obtain rfl:=hy2 _ rfl;obtain rfl:=Option.some.inj h;exact lfP []
noncomputable def impl_NatBook_doorsOk_m (a0:NatBook):Option (Bool) :=
 bd (lp (σ:=Int) (β:=(Unit ⊕ Unit)) (fun s1 =>
(if (decide (s1<((a0.Doors.length:Nat):Int))) = true then
 gd ((0:Int)≤s1∧s1<((a0.Doors.length:Nat):Int)) <|
 bd (impl_within_m ((a0.Doors.getD s1.toNat default).Kind) 1 7) fun x6 =>
 bd (gcall ((!x6) = false) (impl_within_m ((a0.Doors.getD s1.toNat default).Outer) 1 65535)) fun x7 =>
 bd (gcall (((!x6) || (!x7)) = false) (impl_within_m ((a0.Doors.getD s1.toNat default).Outer) a0.Low a0.High)) fun x8 =>
 bd (gcall ((((!x6) || (!x7)) || x8) = false) (impl_NatBook_inside_m a0 ((a0.Doors.getD s1.toNat default).Inner))) fun x9 =>
 bd (gcall (((((!x6) || (!x7)) || x8) || (!x9)) = false) (impl_within_m ((a0.Doors.getD s1.toNat default).InnerPort) 1 65535)) fun x10 =>
(if (((((!x6) || (!x7)) || x8) || (!x9)) || (!x10)) = true then
 some (.inr (.inl ()))
else
 gd ((decide (s1 > 0)) = true → ((0:Int)≤IntKind.i64.wrap (s1 - 1)∧IntKind.i64.wrap (s1 - 1)<((a0.Doors.length:Nat):Int))) <|
 bd (gcall ((decide (s1 > 0)) = true) (cmp_Compare_int_m ((a0.Doors.getD ((IntKind.i64.wrap (s1 - 1)).toNat) default).Kind) ((a0.Doors.getD s1.toNat default).Kind))) fun x12 =>
 gd ((decide (s1 > 0)) = true → ((0:Int)≤IntKind.i64.wrap (s1 - 1)∧IntKind.i64.wrap (s1 - 1)<((a0.Doors.length:Nat):Int))) <|
 bd (gcall ((decide (s1 > 0)) = true) (cmp_Compare_int_m ((a0.Doors.getD ((IntKind.i64.wrap (s1 - 1)).toNat) default).Outer) ((a0.Doors.getD s1.toNat default).Outer))) fun x14 =>
 bd (gcall ((decide (s1 > 0)) = true) (cmp_Or_int_m ([x12,x14]:List Int))) fun x15 =>
(if ((decide (s1 > 0)) && (decide (x15 ≥ 0))) = true then
 some (.inr (.inl ()))
else
 gd ((0:Int)≤(0:Int)∧(0:Int)≤s1∧s1≤((a0.Doors.length:Nat):Int)) <|
 bd (lp (σ:=Int) (β:=(Unit ⊕ Unit)) (fun s17 =>
(if (decide (s17<((s1.toNat:Nat):Int))) = true then
 gd ((0:Int)≤s17∧s17<((s1.toNat:Nat):Int)) <|
(if (((((a0.Doors.getD s17.toNat default).Kind) == ((a0.Doors.getD s1.toNat default).Kind)) && (((a0.Doors.getD s17.toNat default).Inner) == ((a0.Doors.getD s1.toNat default).Inner))) && (((a0.Doors.getD s17.toNat default).InnerPort) == ((a0.Doors.getD s1.toNat default).InnerPort))) = true then
 some (.inr (.inl ()))
else
 some (.inl (IntKind.i64.wrap (s17+1))))
else
 some (.inr (.inr ())))) 0) fun x20 =>
(match x20 with
| .inl d22 =>
 some (.inr (.inl ()))
| .inr d23 =>
 some (.inl (IntKind.i64.wrap (s1+1))))))
else
 some (.inr (.inr ())))) 0) fun x4 =>
(match x4 with
| .inl d24 =>
 some false
| .inr d25 =>
 some (decide (((a0.Doors.length:Nat):Int)≤6)))
theorem impl_NatBook_doorsOk_c {a0:NatBook} {r:Bool} (h:impl_NatBook_doorsOk_m a0 = some r):PureC Try.prog 108 [.agg [.d (.int .i64 a0.Addr),.d (.int .i64 a0.Len),.d (.int .i64 a0.Own),.d (.int .i64 a0.Low),.d (.int .i64 a0.High),.d (slD NatDoor.enc a0.Doors),.d (.int .i64 a0.Now),.d (slD NatEntry.enc a0.Entries)]] (.d (.bool r)) []:=by
  refine pureC_x tOk (fn:=Try.f108) (c:=codeOf Try.f108) rfl rfl ?_;unfold impl_NatBook_doorsOk_m at h;(conv=>whnf);refine seq_in tOk ?_;(conv=>whnf);obtain ⟨x4,hx4,h⟩:=bd_some h;refine loop_m tOk hx4 (fun s1=>⟨0,108,[(1,.ref 1 0 0),(8,.d (slD NatDoor.enc a0.Doors)),(9,.d (.int .i64 ((a0.Doors.length:Nat):Int))),(10,.d (.int .i64 s1))],[],[(1,.box 56 [.d (.int .i64 a0.Addr),.d (.int .i64 a0.Len),.d (.int .i64 a0.Own),.d (.int .i64 a0.Low),.d (.int .i64 a0.High),.d (slD NatDoor.enc a0.Doors),.d (.int .i64 a0.Now),.d (slD NatEntry.enc a0.Entries)])],[]⟩) ?_ ?_
  · exact leX []
  · clear hx4;intro s1 y2 g3 hy2;(conv=>whnf);refine seq_in tOk ?_;(conv=>whnf);refine andI g3 (fun _ g3=>?_) (fun _ g3=>?_)
    · (conv=>whnf);refine seq_in tOk ?_;(conv=>whnf);refine gdI g3 (fun g3=>?_);(conv=>whnf);refine seq_in tOk ?_;(conv=>whnf);obtain ⟨x6,hx6,g3⟩:=bd_some g3;refine cC 0 (impl_within_c hx6) ?_;clear hx6;(conv=>whnf);obtain ⟨x7,hx7,g3⟩:=bd_some g3;refine cG (fun c0=>impl_within_c (gcall_some hx7 c0)) ?_;(conv=>whnf);obtain ⟨x8,hx8,g3⟩:=bd_some g3;refine cG (fun c0=>impl_within_c (gcall_some hx8 c0)) ?_;(conv=>whnf);obtain ⟨x9,hx9,g3⟩:=bd_some g3;refine cG (fun c0=>impl_NatBook_inside_c (gcall_some hx9 c0)) ?_;(conv=>whnf);obtain ⟨x10,hx10,g3⟩:=bd_some g3;refine cG (fun c0=>impl_within_c (gcall_some hx10 c0)) ?_;(conv=>whnf);refine andI g3 (fun _ g3=>?_) (fun _ g3=>?_)
      · (conv=>whnf);obtain rfl:=Option.some.inj g3;obtain rfl:=hy2 _ rfl;obtain rfl:=Option.some.inj h;exact lfP []
      · (conv=>whnf);refine seq_in tOk ?_;(conv=>whnf);obtain ⟨g11,g3⟩:=gd_some g3;obtain ⟨x12,hx12,g3⟩:=bd_some g3;obtain ⟨g13,g3⟩:=gd_some g3;obtain ⟨x14,hx14,g3⟩:=bd_some g3;obtain ⟨x15,hx15,g3⟩:=bd_some g3;refine draw_u tOk [.u 12 0 (.d (.int .i64 x12)) [],.u 22 0 (.d (.int .i64 x14)) [],.u 24 0 (.d (.int .i64 x15)) []] 27 [] [0,1,3,7,15,7,39,127,255,511,7,1031,4095,7,8199,7,32775,122887,253959,516103,7,1048583,4194303,8388607,16777215,33554431,67108863] [] ?_;(conv=>whnf);refine And.intro g11 ?_;clear g11;(conv=>whnf);refine And.intro (callDG_if rfl rfl rfl rfl (by intro c0; exact cmp_Compare_int_c (gcall_some hx12 c0))) ?_;(conv=>whnf);refine And.intro g13 ?_;clear g13;(conv=>whnf);refine And.intro (callDG_if rfl rfl rfl rfl (by intro c0; exact cmp_Compare_int_c (gcall_some hx14 c0))) ?_;(conv=>whnf);refine And.intro (callDG_if rfl rfl rfl rfl (by intro c0;  exact (cmp_Or_int_c (gcall_some hx15 c0)).le argA)) ?_;(conv=>whnf);refine And.intro (by kernel_rfl) ?_;(conv=>whnf);refine andI g3 (fun _ g3=>?_) (fun _ g3=>?_)
        · (conv=>whnf);obtain rfl:=Option.some.inj g3;obtain rfl:=hy2 _ rfl;obtain rfl:=Option.some.inj h;exact lfP []
        · (conv=>whnf);obtain ⟨g16,g3⟩:=gd_some g3;refine And.intro ⟨g16,.inr rfl⟩ ?_;(conv=>whnf);obtain ⟨x20,hx20,g3⟩:=bd_some g3;refine loop_m tOk hx20 (fun s17=>⟨0,108,[(1,.ref 1 0 0),(4,.ref 4 0 0),(8,.d (slD NatDoor.enc a0.Doors)),(9,.d (.int .i64 ((a0.Doors.length:Nat):Int))),(10,.d (.int .i64 s1)),(77,.d (.sl s1.toNat (rows NatDoor.enc a0.Doors))),(78,.d (.int .i64 ((s1.toNat:Nat):Int))),(79,.d (.int .i64 s17))],[],[(4,.box 104 [.d (.int .i64 ((a0.Doors.getD s1.toNat default).Kind)),.d (.int .i64 ((a0.Doors.getD s1.toNat default).Outer)),.d (.int .i64 ((a0.Doors.getD s1.toNat default).Inner)),.d (.int .i64 ((a0.Doors.getD s1.toNat default).InnerPort))]),(1,.box 56 [.d (.int .i64 a0.Addr),.d (.int .i64 a0.Len),.d (.int .i64 a0.Own),.d (.int .i64 a0.Low),.d (.int .i64 a0.High),.d (slD NatDoor.enc a0.Doors),.d (.int .i64 a0.Now),.d (slD NatEntry.enc a0.Entries)])],[]⟩) ?_ ?_
          · exact leX []
          · clear hx20;intro s17 y18 g19 hy18;(conv=>whnf);refine seq_in tOk ?_;(conv=>whnf);refine andI g19 (fun _ g19=>?_) (fun _ g19=>?_)
            · (conv=>whnf);refine seq_in tOk ?_;(conv=>whnf);refine gdI g19 (fun g19=>?_);(conv=>whnf);refine andI g19 (fun _ g19=>?_) (fun _ g19=>?_)
              · (conv=>whnf);obtain rfl:=Option.some.inj g19;obtain rfl:=hy18 _ rfl;obtain rfl:=Option.some.inj g3;obtain rfl:=hy2 _ rfl;obtain rfl:=Option.some.inj h;exact lfP []
              · (conv=>whnf);obtain rfl:=Option.some.inj g19;exact ⟨_,rfl,leX []⟩
            · (conv=>whnf);obtain rfl:=Option.some.inj g19;obtain rfl:=hy18 _ rfl;obtain rfl:=Option.some.inj g3;exact ⟨_,rfl,leX []⟩
    · (conv=>whnf);obtain rfl:=Option.some.inj g3;obtain rfl:=hy2 _ rfl;obtain rfl:=Option.some.inj h;exact lfP []
noncomputable def impl_NatEntry_flow_m (a0:NatEntry):Option (NatFlow) :=
 some (⟨a0.Kind,a0.Inner,a0.InnerPort,a0.Peer,a0.PeerPort⟩:NatFlow)
theorem impl_NatEntry_flow_c {a0:NatEntry} {r:NatFlow} (h:impl_NatEntry_flow_m a0 = some r):PureC Try.prog 67 [.agg [.d (.int .i64 a0.Kind),.d (.int .i64 a0.Peer),.d (.int .i64 a0.PeerPort),.d (.int .i64 a0.Outer),.d (.int .i64 a0.Inner),.d (.int .i64 a0.InnerPort),.d (.int .i64 a0.Last)]] (.agg [.d (.int .i64 r.Kind),.d (.int .i64 r.From),.d (.int .i64 r.FromPort),.d (.int .i64 r.To),.d (.int .i64 r.ToPort)]) []:=by
  refine pureC_x tOk (fn:=Try.f67) (c:=codeOf Try.f67) rfl rfl ?_;unfold impl_NatEntry_flow_m at h;(conv=>whnf);obtain rfl:=Option.some.inj h;exact lfP []
noncomputable def impl_NatFlowOk_m (a0:NatFlow):Option (Bool) :=
 bd (impl_within_m a0.Kind 1 7) fun x1 =>
 bd (gcall (x1 = true) (impl_within_m a0.From 0 65535)) fun x2 =>
 bd (gcall ((x1 && x2) = true) (impl_within_m a0.To 0 65535)) fun x3 =>
 bd (gcall (((x1 && x2) && x3) = true) (impl_within_m a0.FromPort 1 65535)) fun x4 =>
 bd (gcall ((((x1 && x2) && x3) && x4) = true) (impl_within_m a0.ToPort 1 65535)) fun x5 =>
 some ((((x1 && x2) && x3) && x4) && x5)
theorem impl_NatFlowOk_c {a0:NatFlow} {r:Bool} (h:impl_NatFlowOk_m a0 = some r):PureC Try.prog 63 [.agg [.d (.int .i64 a0.Kind),.d (.int .i64 a0.From),.d (.int .i64 a0.FromPort),.d (.int .i64 a0.To),.d (.int .i64 a0.ToPort)]] (.d (.bool r)) []:=by
  refine pureC_x tOk (fn:=Try.f63) (c:=codeOf Try.f63) rfl rfl ?_;unfold impl_NatFlowOk_m at h;(conv=>whnf);obtain ⟨x1,hx1,h⟩:=bd_some h;refine cC 0 (impl_within_c hx1) ?_;clear hx1;(conv=>whnf);obtain ⟨x2,hx2,h⟩:=bd_some h;refine cG (fun c0=>impl_within_c (gcall_some hx2 c0)) ?_;(conv=>whnf);obtain ⟨x3,hx3,h⟩:=bd_some h;refine cG (fun c0=>impl_within_c (gcall_some hx3 c0)) ?_;(conv=>whnf);obtain ⟨x4,hx4,h⟩:=bd_some h;refine cG (fun c0=>impl_within_c (gcall_some hx4 c0)) ?_;(conv=>whnf);obtain ⟨x5,hx5,h⟩:=bd_some h;refine cG (fun c0=>impl_within_c (gcall_some hx5 c0)) ?_;(conv=>whnf);obtain rfl:=Option.some.inj h;exact lfP []
noncomputable def impl_NatBook_age_m (a0:NatBook) (a1:NatEntry):Option (Int) :=
 some (IntKind.i64.wrap (a0.Now - a1.Last))
theorem impl_NatBook_age_c {a0:NatBook} {a1:NatEntry} {r:Int} (h:impl_NatBook_age_m a0 a1 = some r):PureC Try.prog 54 [.agg [.d (.int .i64 a0.Addr),.d (.int .i64 a0.Len),.d (.int .i64 a0.Own),.d (.int .i64 a0.Low),.d (.int .i64 a0.High),.d (slD NatDoor.enc a0.Doors),.d (.int .i64 a0.Now),.d (slD NatEntry.enc a0.Entries)],.agg [.d (.int .i64 a1.Kind),.d (.int .i64 a1.Peer),.d (.int .i64 a1.PeerPort),.d (.int .i64 a1.Outer),.d (.int .i64 a1.Inner),.d (.int .i64 a1.InnerPort),.d (.int .i64 a1.Last)]] (.d (.int .i64 r)) []:=by
  refine pureC_x tOk (fn:=Try.f54) (c:=codeOf Try.f54) rfl rfl ?_;unfold impl_NatBook_age_m at h;(conv=>whnf);obtain rfl:=Option.some.inj h;exact lfP []
noncomputable def impl_NatBook_entryOk_m (a0:NatBook) (a1:NatEntry):Option (Bool) :=
 bd (impl_NatEntry_flow_m a1) fun x1 =>
 bd (impl_NatFlowOk_m x1) fun x2 =>
 bd (gcall (x2 = true) (impl_within_m a1.Outer a0.Low a0.High)) fun x3 =>
 bd (gcall ((x2 && x3) = true) (impl_NatBook_inside_m a0 a1.Inner)) fun x4 =>
 bd (gcall (((x2 && x3) && x4) = true) (impl_NatBook_inside_m a0 a1.Peer)) fun x5 =>
 bd (gcall (((((x2 && x3) && x4) && (!x5)) && (a1.Peer != a0.Own)) = true) (impl_within_m a1.Last 0 a0.Now)) fun x6 =>
 bd (gcall ((((((x2 && x3) && x4) && (!x5)) && (a1.Peer != a0.Own)) && x6) = true) (impl_NatBook_age_m a0 a1)) fun x7 =>
 some ((((((x2 && x3) && x4) && (!x5)) && (a1.Peer != a0.Own)) && x6) && (decide (x7<12)))
theorem impl_NatBook_entryOk_c {a0:NatBook} {a1:NatEntry} {r:Bool} (h:impl_NatBook_entryOk_m a0 a1 = some r):PureC Try.prog 153 [.agg [.d (.int .i64 a0.Addr),.d (.int .i64 a0.Len),.d (.int .i64 a0.Own),.d (.int .i64 a0.Low),.d (.int .i64 a0.High),.d (slD NatDoor.enc a0.Doors),.d (.int .i64 a0.Now),.d (slD NatEntry.enc a0.Entries)],.agg [.d (.int .i64 a1.Kind),.d (.int .i64 a1.Peer),.d (.int .i64 a1.PeerPort),.d (.int .i64 a1.Outer),.d (.int .i64 a1.Inner),.d (.int .i64 a1.InnerPort),.d (.int .i64 a1.Last)]] (.d (.bool r)) []:=by
  refine pureC_x tOk (fn:=Try.f153) (c:=codeOf Try.f153) rfl rfl ?_;unfold impl_NatBook_entryOk_m at h;(conv=>whnf);obtain ⟨x1,hx1,h⟩:=bd_some h;refine cC 0 (impl_NatEntry_flow_c hx1) ?_;clear hx1;(conv=>whnf);obtain ⟨x2,hx2,h⟩:=bd_some h;refine cC 0 (impl_NatFlowOk_c hx2) ?_;clear hx2;(conv=>whnf);obtain ⟨x3,hx3,h⟩:=bd_some h;refine cG (fun c0=>impl_within_c (gcall_some hx3 c0)) ?_;(conv=>whnf);obtain ⟨x4,hx4,h⟩:=bd_some h;refine cG (fun c0=>impl_NatBook_inside_c (gcall_some hx4 c0)) ?_;(conv=>whnf);obtain ⟨x5,hx5,h⟩:=bd_some h;refine cG (fun c0=>impl_NatBook_inside_c (gcall_some hx5 c0)) ?_;(conv=>whnf);obtain ⟨x6,hx6,h⟩:=bd_some h;refine cG (fun c0=>impl_within_c (gcall_some hx6 c0)) ?_;(conv=>whnf);obtain ⟨x7,hx7,h⟩:=bd_some h;refine cG (fun c0=>impl_NatBook_age_c (gcall_some hx7 c0)) ?_;(conv=>whnf);obtain rfl:=Option.some.inj h;exact lfP []
noncomputable def impl_NatEntry_compare_m (a0:NatEntry) (a1:NatEntry):Option (Int) :=
 bd (cmp_Compare_int_m a0.Kind a1.Kind) fun x1 =>
 bd (cmp_Compare_int_m a0.Peer a1.Peer) fun x2 =>
 bd (cmp_Compare_int_m a0.PeerPort a1.PeerPort) fun x3 =>
 bd (cmp_Compare_int_m a0.Outer a1.Outer) fun x4 =>
 bd (cmp_Or_int_m ([x1,x2,x3,x4]:List Int)) fun x5 =>
 some x5
theorem impl_NatEntry_compare_c {a0:NatEntry} {a1:NatEntry} {r:Int} (h:impl_NatEntry_compare_m a0 a1 = some r):PureC Try.prog 129 [.agg [.d (.int .i64 a0.Kind),.d (.int .i64 a0.Peer),.d (.int .i64 a0.PeerPort),.d (.int .i64 a0.Outer),.d (.int .i64 a0.Inner),.d (.int .i64 a0.InnerPort),.d (.int .i64 a0.Last)],.agg [.d (.int .i64 a1.Kind),.d (.int .i64 a1.Peer),.d (.int .i64 a1.PeerPort),.d (.int .i64 a1.Outer),.d (.int .i64 a1.Inner),.d (.int .i64 a1.InnerPort),.d (.int .i64 a1.Last)]] (.d (.int .i64 r)) []:=by
  refine pureC_x tOk (fn:=Try.f129) (c:=codeOf Try.f129) rfl rfl ?_;unfold impl_NatEntry_compare_m at h;(conv=>whnf);obtain ⟨x1,hx1,h⟩:=bd_some h;obtain ⟨x2,hx2,h⟩:=bd_some h;obtain ⟨x3,hx3,h⟩:=bd_some h;obtain ⟨x4,hx4,h⟩:=bd_some h;obtain ⟨x5,hx5,h⟩:=bd_some h;refine draw_u tOk [.u 4 0 (.d (.int .i64 x1)) [],.u 9 0 (.d (.int .i64 x2)) [],.u 14 0 (.d (.int .i64 x3)) [],.u 19 0 (.d (.int .i64 x4)) [],.u 21 0 (.d (.int .i64 x5)) []] 23 [] [0,1,0,4,15,0,32,0,128,511,0,1024,0,4096,16383,0,32768,0,131072,524287,1048575,2097151,4194303] [] ?_;(conv=>whnf);refine And.intro (callD_any (cmp_Compare_int_c hx1) (by kernel_rfl)) ?_;(conv=>whnf);refine And.intro (callD_any (cmp_Compare_int_c hx2) (by kernel_rfl)) ?_;(conv=>whnf);refine And.intro (callD_any (cmp_Compare_int_c hx3) (by kernel_rfl)) ?_;(conv=>whnf);refine And.intro (callD_any (cmp_Compare_int_c hx4) (by kernel_rfl)) ?_;(conv=>whnf);refine bldS (enc:=encInt) ([x1,x2,x3,x4]:List Int) ?_;(conv=>whnf);refine And.intro (callD_any (cmp_Or_int_c hx5) (by kernel_rfl)) ?_;(conv=>whnf);refine And.intro (by kernel_rfl) ?_;(conv=>whnf);obtain rfl:=Option.some.inj h;exact lfP []
noncomputable def impl_NatBook_lives_m (a0:NatBook) (a1:NatEntry):Option (Bool) :=
 bd (impl_NatBook_age_m a0 a1) fun x1 =>
 some (decide (x1<8))
theorem impl_NatBook_lives_c {a0:NatBook} {a1:NatEntry} {r:Bool} (h:impl_NatBook_lives_m a0 a1 = some r):PureC Try.prog 65 [.agg [.d (.int .i64 a0.Addr),.d (.int .i64 a0.Len),.d (.int .i64 a0.Own),.d (.int .i64 a0.Low),.d (.int .i64 a0.High),.d (slD NatDoor.enc a0.Doors),.d (.int .i64 a0.Now),.d (slD NatEntry.enc a0.Entries)],.agg [.d (.int .i64 a1.Kind),.d (.int .i64 a1.Peer),.d (.int .i64 a1.PeerPort),.d (.int .i64 a1.Outer),.d (.int .i64 a1.Inner),.d (.int .i64 a1.InnerPort),.d (.int .i64 a1.Last)]] (.d (.bool r)) []:=by
  refine pureC_x tOk (fn:=Try.f65) (c:=codeOf Try.f65) rfl rfl ?_;unfold impl_NatBook_lives_m at h;(conv=>whnf);obtain ⟨x1,hx1,h⟩:=bd_some h;refine cC 0 (impl_NatBook_age_c hx1) ?_;clear hx1;(conv=>whnf);obtain rfl:=Option.some.inj h;exact lfP []
noncomputable def impl_NatBook_entriesOk_m (a0:NatBook):Option (Bool) :=
 bd (lp (σ:=Int) (β:=(Unit ⊕ Unit)) (fun s1 =>
(if (decide (s1<((a0.Entries.length:Nat):Int))) = true then
 gd ((0:Int)≤s1∧s1<((a0.Entries.length:Nat):Int)) <|
 bd (impl_NatBook_entryOk_m a0 (a0.Entries.getD s1.toNat default)) fun x6 =>
 gd ((decide (s1 > 0)) = true → ((!x6) = false → ((0:Int)≤IntKind.i64.wrap (s1 - 1)∧IntKind.i64.wrap (s1 - 1)<((a0.Entries.length:Nat):Int)))) <|
 bd (gcall ((decide (s1 > 0)) = true∧(!x6) = false) (impl_NatEntry_compare_m (a0.Entries.getD ((IntKind.i64.wrap (s1 - 1)).toNat) default) (a0.Entries.getD s1.toNat default))) fun x8 =>
(if ((!x6) || ((decide (s1 > 0)) && (decide (x8 ≥ 0)))) = true then
 some (.inr (.inl ()))
else
 gd ((0:Int)≤(0:Int)∧(0:Int)≤s1∧s1≤((a0.Entries.length:Nat):Int)) <|
 bd (lp (σ:=Int) (β:=(Unit ⊕ Unit)) (fun s10 =>
(if (decide (s10<((s1.toNat:Nat):Int))) = true then
 gd ((0:Int)≤s10∧s10<((s1.toNat:Nat):Int)) <|
 bd (impl_NatBook_lives_m a0 (a0.Entries.getD s1.toNat default)) fun x15 =>
 bd (gcall (x15 = true) (impl_NatBook_lives_m a0 (a0.Entries.getD s10.toNat default))) fun x16 =>
 bd (gcall ((x15 && x16) = true) (impl_NatEntry_flow_m (a0.Entries.getD s1.toNat default))) fun x17 =>
 bd (gcall ((x15 && x16) = true) (impl_NatEntry_flow_m (a0.Entries.getD s10.toNat default))) fun x18 =>
(if ((x15 && x16) && ((x17.Kind == x18.Kind) && ((x17.From == x18.From) && ((x17.FromPort == x18.FromPort) && ((x17.To == x18.To) && ((x17.ToPort == x18.ToPort) && true)))))) = true then
 some (.inr (.inl ()))
else
 some (.inl (IntKind.i64.wrap (s10+1))))
else
 some (.inr (.inr ())))) 0) fun x13 =>
(match x13 with
| .inl d19 =>
 some (.inr (.inl ()))
| .inr d20 =>
 some (.inl (IntKind.i64.wrap (s1+1)))))
else
 some (.inr (.inr ())))) 0) fun x4 =>
(match x4 with
| .inl d21 =>
 some false
| .inr d22 =>
 some (decide (((a0.Entries.length:Nat):Int)≤16)))
theorem impl_NatBook_entriesOk_c {a0:NatBook} {r:Bool} (h:impl_NatBook_entriesOk_m a0 = some r):PureC Try.prog 109 [.agg [.d (.int .i64 a0.Addr),.d (.int .i64 a0.Len),.d (.int .i64 a0.Own),.d (.int .i64 a0.Low),.d (.int .i64 a0.High),.d (slD NatDoor.enc a0.Doors),.d (.int .i64 a0.Now),.d (slD NatEntry.enc a0.Entries)]] (.d (.bool r)) []:=by
  refine pureC_x tOk (fn:=Try.f109) (c:=codeOf Try.f109) rfl rfl ?_;unfold impl_NatBook_entriesOk_m at h;(conv=>whnf);refine seq_in tOk ?_;(conv=>whnf);obtain ⟨x4,hx4,h⟩:=bd_some h;refine loop_m tOk hx4 (fun s1=>⟨0,64,[(1,.ref 1 0 0),(8,.d (slD NatEntry.enc a0.Entries)),(9,.d (.int .i64 ((a0.Entries.length:Nat):Int))),(10,.d (.int .i64 s1))],[],[(1,.box 56 [.d (.int .i64 a0.Addr),.d (.int .i64 a0.Len),.d (.int .i64 a0.Own),.d (.int .i64 a0.Low),.d (.int .i64 a0.High),.d (slD NatDoor.enc a0.Doors),.d (.int .i64 a0.Now),.d (slD NatEntry.enc a0.Entries)])],[]⟩) ?_ ?_
  · exact leX []
  · clear hx4;intro s1 y2 g3 hy2;(conv=>whnf);refine seq_in tOk ?_;(conv=>whnf);refine andI g3 (fun _ g3=>?_) (fun _ g3=>?_)
    · (conv=>whnf);refine seq_in tOk ?_;(conv=>whnf);refine gdI g3 (fun g3=>?_);(conv=>whnf);refine seq_in tOk ?_;(conv=>whnf);obtain ⟨x6,hx6,g3⟩:=bd_some g3;obtain ⟨g7,g3⟩:=gd_some g3;obtain ⟨x8,hx8,g3⟩:=bd_some g3;refine draw_u tOk [.u 2 0 (.d (.bool x6)) [],.u 15 0 (.d (.int .i64 x8)) []] 19 [] [0,0,3,7,15,31,63,127,255,511,255,1279,4095,8191,255,32767,65535,131071,262143] [] ?_;(conv=>whnf);refine And.intro (callD_any (impl_NatBook_entryOk_c hx6) (by kernel_rfl)) ?_;(conv=>whnf);refine And.intro g7 ?_;clear g7;(conv=>whnf);refine And.intro (callDG_if rfl rfl rfl rfl (by intro c0 c1; exact impl_NatEntry_compare_c (gcall_some hx8 ⟨c0,c1⟩))) ?_;(conv=>whnf);refine And.intro (by kernel_rfl) ?_;(conv=>whnf);refine andI g3 (fun _ g3=>?_) (fun _ g3=>?_)
      · (conv=>whnf);obtain rfl:=Option.some.inj g3;obtain rfl:=hy2 _ rfl;obtain rfl:=Option.some.inj h;exact lfP []
      · (conv=>whnf);obtain ⟨g9,g3⟩:=gd_some g3;refine And.intro ⟨g9,.inr rfl⟩ ?_;(conv=>whnf);obtain ⟨x13,hx13,g3⟩:=bd_some g3;refine loop_m tOk hx13 (fun s10=>⟨0,64,[(1,.ref 1 0 0),(4,.ref 4 0 0),(8,.d (slD NatEntry.enc a0.Entries)),(9,.d (.int .i64 ((a0.Entries.length:Nat):Int))),(10,.d (.int .i64 s1)),(37,.d (.sl s1.toNat (rows NatEntry.enc a0.Entries))),(38,.d (.int .i64 ((s1.toNat:Nat):Int))),(39,.d (.int .i64 s10))],[],[(4,.box 65 [.d (.int .i64 ((a0.Entries.getD s1.toNat default).Kind)),.d (.int .i64 ((a0.Entries.getD s1.toNat default).Peer)),.d (.int .i64 ((a0.Entries.getD s1.toNat default).PeerPort)),.d (.int .i64 ((a0.Entries.getD s1.toNat default).Outer)),.d (.int .i64 ((a0.Entries.getD s1.toNat default).Inner)),.d (.int .i64 ((a0.Entries.getD s1.toNat default).InnerPort)),.d (.int .i64 ((a0.Entries.getD s1.toNat default).Last))]),(1,.box 56 [.d (.int .i64 a0.Addr),.d (.int .i64 a0.Len),.d (.int .i64 a0.Own),.d (.int .i64 a0.Low),.d (.int .i64 a0.High),.d (slD NatDoor.enc a0.Doors),.d (.int .i64 a0.Now),.d (slD NatEntry.enc a0.Entries)])],[]⟩) ?_ ?_
        · exact leX []
        · clear hx13;intro s10 y11 g12 hy11;(conv=>whnf);refine seq_in tOk ?_;(conv=>whnf);refine andI g12 (fun _ g12=>?_) (fun _ g12=>?_)
          · (conv=>whnf);refine seq_in tOk ?_;(conv=>whnf);refine gdI g12 (fun g12=>?_);(conv=>whnf);obtain ⟨x15,hx15,g12⟩:=bd_some g12;obtain ⟨x16,hx16,g12⟩:=bd_some g12;obtain ⟨x17,hx17,g12⟩:=bd_some g12;obtain ⟨x18,hx18,g12⟩:=bd_some g12;refine draw_u tOk [.u 2 0 (.d (.bool x15)) [],.u 6 0 (.d (.bool x16)) [],.u 10 0 (.agg [.d (.int .i64 x17.Kind),.d (.int .i64 x17.From),.d (.int .i64 x17.FromPort),.d (.int .i64 x17.To),.d (.int .i64 x17.ToPort)]) [],.u 12 0 (.agg [.d (.int .i64 x18.Kind),.d (.int .i64 x18.From),.d (.int .i64 x18.FromPort),.d (.int .i64 x18.To),.d (.int .i64 x18.ToPort)]) []] 15 [] [0,0,3,7,15,15,63,127,255,511,1023,511,4095,8191,16383] [] ?_;(conv=>whnf);refine And.intro (callD_any (impl_NatBook_lives_c hx15) (by kernel_rfl)) ?_;(conv=>whnf);refine And.intro (callDG_if rfl rfl rfl rfl (by intro c0; exact impl_NatBook_lives_c (gcall_some hx16 c0))) ?_;(conv=>whnf);refine And.intro (callDG_if rfl rfl rfl rfl (by intro c0; exact impl_NatEntry_flow_c (gcall_some hx17 c0))) ?_;(conv=>whnf);refine And.intro (callDG_if rfl rfl rfl rfl (by intro c0; exact impl_NatEntry_flow_c (gcall_some hx18 c0))) ?_;(conv=>whnf);refine And.intro (by kernel_rfl) ?_;(conv=>whnf);refine andI g12 (fun _ g12=>?_) (fun _ g12=>?_)
            · (conv=>whnf);obtain rfl:=Option.some.inj g12;obtain rfl:=hy11 _ rfl;obtain rfl:=Option.some.inj g3;obtain rfl:=hy2 _ rfl;obtain rfl:=Option.some.inj h;exact lfP []
            · (conv=>whnf);obtain rfl:=Option.some.inj g12;exact ⟨_,rfl,leX []⟩
          · (conv=>whnf);obtain rfl:=Option.some.inj g12;obtain rfl:=hy11 _ rfl;obtain rfl:=Option.some.inj g3;exact ⟨_,rfl,leX []⟩
    · (conv=>whnf);obtain rfl:=Option.some.inj g3;obtain rfl:=hy2 _ rfl;obtain rfl:=Option.some.inj h;exact lfP []
noncomputable def impl_NatBookOk_m (a0:NatBook):Option (Bool) :=
 bd (impl_NetOk_m (⟨a0.Addr,a0.Len⟩:NetPrefix)) fun x1 =>
 bd (gcall ((!x1) = false) (impl_within_m a0.Own 0 65535)) fun x2 =>
 bd (gcall (((!x1) || (!x2)) = false) (impl_NatBook_inside_m a0 a0.Own)) fun x3 =>
 bd (gcall (((((((!x1) || (!x2)) || x3) || (decide (a0.Low<1))) || (decide (a0.Low > a0.High))) || (decide (a0.High > 65535))) = false) (impl_within_m a0.Now 0 1000000)) fun x4 =>
(if (((((((!x1) || (!x2)) || x3) || (decide (a0.Low<1))) || (decide (a0.Low > a0.High))) || (decide (a0.High > 65535))) || (!x4)) = true then
 some false
else
 bd (impl_NatBook_doorsOk_m a0) fun x5 =>
 bd (gcall (x5 = true) (impl_NatBook_entriesOk_m a0)) fun x6 =>
 some (x5 && x6))
theorem impl_NatBookOk_c {a0:NatBook} {r:Bool} (h:impl_NatBookOk_m a0 = some r):PureC Try.prog 50 [.agg [.d (.int .i64 a0.Addr),.d (.int .i64 a0.Len),.d (.int .i64 a0.Own),.d (.int .i64 a0.Low),.d (.int .i64 a0.High),.d (slD NatDoor.enc a0.Doors),.d (.int .i64 a0.Now),.d (slD NatEntry.enc a0.Entries)]] (.d (.bool r)) []:=by
  refine pureC_x tOk (fn:=Try.f50) (c:=codeOf Try.f50) rfl rfl ?_;unfold impl_NatBookOk_m at h;(conv=>whnf);refine seq_in tOk ?_;(conv=>whnf);obtain ⟨x1,hx1,h⟩:=bd_some h;refine cC 0 (impl_NetOk_c hx1) ?_;clear hx1;(conv=>whnf);obtain ⟨x2,hx2,h⟩:=bd_some h;refine cG (fun c0=>impl_within_c (gcall_some hx2 c0)) ?_;(conv=>whnf);obtain ⟨x3,hx3,h⟩:=bd_some h;refine cG (fun c0=>impl_NatBook_inside_c (gcall_some hx3 c0)) ?_;(conv=>whnf);obtain ⟨x4,hx4,h⟩:=bd_some h;refine cG (fun c0=>impl_within_c (gcall_some hx4 c0)) ?_;(conv=>whnf);refine andI h (fun _ h=>?_) (fun _ h=>?_)
  · (conv=>whnf);obtain rfl:=Option.some.inj h;exact lfP []
  · (conv=>whnf);obtain ⟨x5,hx5,h⟩:=bd_some h;refine cC 0 (impl_NatBook_doorsOk_c hx5) ?_;clear hx5;(conv=>whnf);obtain ⟨x6,hx6,h⟩:=bd_some h;refine cG (fun c0=>impl_NatBook_entriesOk_c (gcall_some hx6 c0)) ?_;(conv=>whnf);obtain rfl:=Option.some.inj h;exact lfP []
noncomputable def impl_clone_NatDoor_m (a0:(List NatDoor)):Option ((List NatDoor)) :=
 gd ((0:Int)≤0∧0≤((a0.length:Nat):Int)∧((a0.length:Nat):Int) * 32≤140737488355328∧((a0.length:Nat):Int)≤140737488355328) <|
 gd ((((List.replicate (0:Int).toNat (default:NatDoor)).length)+(a0.length)) * (32+1)≤70368744177664) <|
 some ((List.replicate (0:Int).toNat (default:NatDoor)) ++ a0)
theorem impl_clone_NatDoor_c {a0:(List NatDoor)} {r:(List NatDoor)} (h:impl_clone_NatDoor_m a0 = some r):PureC Try.prog 110 [.d (slD NatDoor.enc a0)] (.osl 5001 0 r.length) [⟨5001,104,4,r.length,rows NatDoor.enc r⟩]:=by
  refine pureC_x tOk (fn:=Try.f110) (c:=codeOf Try.f110) rfl rfl ?_;unfold impl_clone_NatDoor_m at h;(conv=>whnf);obtain ⟨g2,h⟩:=gd_some h;refine And.intro g2 ?_;clear g2;refine ⟨(List.replicate (0:Int).toNat (default:NatDoor)).length,rows NatDoor.enc (List.replicate (0:Int).toNat (default:NatDoor)),by simp,make_rows rfl,?_⟩;(conv=>whnf);refine gdI h (fun h=>?_);refine appS (enc:=NatDoor.enc) (xs:=(List.replicate (0:Int).toNat (default:NatDoor))) (ys:=a0) ?_;(conv=>whnf);obtain rfl:=Option.some.inj h;exact lfP [.s [(5,5001),(5001,5)]]
noncomputable def impl_clone_NatEntry_m (a0:(List NatEntry)):Option ((List NatEntry)) :=
 gd ((0:Int)≤0∧0≤((a0.length:Nat):Int)∧((a0.length:Nat):Int) * 56≤140737488355328∧((a0.length:Nat):Int)≤140737488355328) <|
 gd ((((List.replicate (0:Int).toNat (default:NatEntry)).length)+(a0.length)) * (56+1)≤70368744177664) <|
 some ((List.replicate (0:Int).toNat (default:NatEntry)) ++ a0)
theorem impl_clone_NatEntry_c {a0:(List NatEntry)} {r:(List NatEntry)} (h:impl_clone_NatEntry_m a0 = some r):PureC Try.prog 111 [.d (slD NatEntry.enc a0)] (.osl 5001 0 r.length) [⟨5001,65,7,r.length,rows NatEntry.enc r⟩]:=by
  refine pureC_x tOk (fn:=Try.f111) (c:=codeOf Try.f111) rfl rfl ?_;unfold impl_clone_NatEntry_m at h;(conv=>whnf);obtain ⟨g2,h⟩:=gd_some h;refine And.intro g2 ?_;clear g2;refine ⟨(List.replicate (0:Int).toNat (default:NatEntry)).length,rows NatEntry.enc (List.replicate (0:Int).toNat (default:NatEntry)),by simp,make_rows rfl,?_⟩;(conv=>whnf);refine gdI h (fun h=>?_);refine appS (enc:=NatEntry.enc) (xs:=(List.replicate (0:Int).toNat (default:NatEntry))) (ys:=a0) ?_;(conv=>whnf);obtain rfl:=Option.some.inj h;exact lfP [.s [(5,5001),(5001,5)]]
noncomputable def impl_copyBook_m (a0:NatBook):Option (NatBook) :=
 bd (impl_clone_NatDoor_m a0.Doors) fun x1 =>
 bd (impl_clone_NatEntry_m a0.Entries) fun x2 =>
 some ({ a0 with Doors:=x1,Entries:=x2 })
theorem impl_copyBook_c {a0:NatBook} {r:NatBook} (h:impl_copyBook_m a0 = some r):PureC Try.prog 51 [.agg [.d (.int .i64 a0.Addr),.d (.int .i64 a0.Len),.d (.int .i64 a0.Own),.d (.int .i64 a0.Low),.d (.int .i64 a0.High),.d (slD NatDoor.enc a0.Doors),.d (.int .i64 a0.Now),.d (slD NatEntry.enc a0.Entries)]] (.agg [.d (.int .i64 r.Addr),.d (.int .i64 r.Len),.d (.int .i64 r.Own),.d (.int .i64 r.Low),.d (.int .i64 r.High),.osl 5001 0 r.Doors.length,.d (.int .i64 r.Now),.osl 5002 0 r.Entries.length]) [⟨5001,104,4,r.Doors.length,rows NatDoor.enc r.Doors⟩,⟨5002,65,7,r.Entries.length,rows NatEntry.enc r.Entries⟩]:=by
  refine pureC_x tOk (fn:=Try.f51) (c:=codeOf Try.f51) rfl rfl ?_;unfold impl_copyBook_m at h;(conv=>whnf);obtain ⟨x1,hx1,h⟩:=bd_some h;obtain ⟨x2,hx2,h⟩:=bd_some h;refine draw_u tOk [.u 2 1000 (.osl 5001 0 x1.length) [⟨5001,104,4,x1.length,rows NatDoor.enc x1⟩],.u 5 2000 (.osl 5001 0 x2.length) [⟨5001,65,7,x2.length,rows NatEntry.enc x2⟩]] 7 [] [0,1,3,0,8,31,31] [127,255,511] ?_;(conv=>whnf);refine And.intro (callD_any (impl_clone_NatDoor_c hx1) (by kernel_rfl)) ?_;(conv=>whnf);refine And.intro (callD_any (impl_clone_NatEntry_c hx2) (by kernel_rfl)) ?_;(conv=>whnf);refine And.intro (by kernel_rfl) ?_;(conv=>whnf);obtain rfl:=Option.some.inj h;exact lfP [.s [(5001,6001),(5002,7001),(6001,5001),(7001,5002)]]
noncomputable def impl_NatTick_1_m (a0:NatEntry) (a1:NatBook):Option (Bool) :=
 bd (impl_NatBook_age_m a1 a0) fun x1 =>
 some (decide (x1 ≥ 12))
theorem impl_NatTick_1_c {a0:NatEntry} {a1:NatBook} {r:Bool} (h:impl_NatTick_1_m a0 a1 = some r):PureC Try.prog 53 [.agg [.d (.int .i64 a0.Kind),.d (.int .i64 a0.Peer),.d (.int .i64 a0.PeerPort),.d (.int .i64 a0.Outer),.d (.int .i64 a0.Inner),.d (.int .i64 a0.InnerPort),.d (.int .i64 a0.Last)],.rp [.int .i64 a1.Addr,.int .i64 a1.Len,.int .i64 a1.Own,.int .i64 a1.Low,.int .i64 a1.High,slD NatDoor.enc a1.Doors,.int .i64 a1.Now,slD NatEntry.enc a1.Entries]] (.d (.bool r)) []:=by
  refine pureC_x tOk (fn:=Try.f53) (c:=codeOf Try.f53) rfl rfl ?_;unfold impl_NatTick_1_m at h;(conv=>whnf);obtain ⟨x1,hx1,h⟩:=bd_some h;refine cC 0 (impl_NatBook_age_c hx1) ?_;clear hx1;(conv=>whnf);obtain rfl:=Option.some.inj h;exact lfP []
noncomputable def slices_IndexFunc_NatEntry_NatEntry_impl_NatTick_1_m (a0:(List NatEntry)) (a1c0:NatBook):Option (Int) :=
 bd (lp (σ:=Int) (β:=(Int ⊕ Unit)) (fun s1 =>
(if (decide (s1<((a0.length:Nat):Int))) = true then
 gd ((0:Int)≤s1∧s1<((a0.length:Nat):Int)) <|
 bd (impl_NatTick_1_m (a0.getD s1.toNat default) a1c0) fun x6 =>
(if x6 = true then
 some (.inr (.inl s1))
else
 some (.inl (IntKind.i64.wrap (s1+1))))
else
 some (.inr (.inr ())))) 0) fun x4 =>
(match x4 with
| .inl d7 =>
 some d7
| .inr d8 =>
 some (-1))
theorem slices_IndexFunc_NatEntry_NatEntry_impl_NatTick_1_c {a0:(List NatEntry)} {a1c0:NatBook} {r:Int} (h:slices_IndexFunc_NatEntry_NatEntry_impl_NatTick_1_m a0 a1c0 = some r):PureC Try.prog 112 [.d (slD NatEntry.enc a0),.fn 53 [.rp [.int .i64 a1c0.Addr,.int .i64 a1c0.Len,.int .i64 a1c0.Own,.int .i64 a1c0.Low,.int .i64 a1c0.High,slD NatDoor.enc a1c0.Doors,.int .i64 a1c0.Now,slD NatEntry.enc a1c0.Entries]]] (.d (.int .i64 r)) []:=by
  refine pureC_x tOk (fn:=Try.f112) (c:=codeOf Try.f112) rfl rfl ?_;unfold slices_IndexFunc_NatEntry_NatEntry_impl_NatTick_1_m at h;(conv=>whnf);refine seq_in tOk ?_;(conv=>whnf);obtain ⟨x4,hx4,h⟩:=bd_some h;refine loop_m tOk hx4 (fun s1=>⟨0,19,[(0,.d (slD NatEntry.enc a0)),(1,.fn 53 [.rp [.int .i64 a1c0.Addr,.int .i64 a1c0.Len,.int .i64 a1c0.Own,.int .i64 a1c0.Low,.int .i64 a1c0.High,slD NatDoor.enc a1c0.Doors,.int .i64 a1c0.Now,slD NatEntry.enc a1c0.Entries]]),(7,.d (.int .i64 ((a0.length:Nat):Int))),(8,.d (.int .i64 s1))],[],[],[]⟩) ?_ ?_
  · exact leX []
  · clear hx4;intro s1 y2 g3 hy2;(conv=>whnf);refine seq_in tOk ?_;(conv=>whnf);refine andI g3 (fun _ g3=>?_) (fun _ g3=>?_)
    · (conv=>whnf);refine seq_in tOk ?_;(conv=>whnf);refine gdI g3 (fun g3=>?_);(conv=>whnf);obtain ⟨x6,hx6,g3⟩:=bd_some g3;refine cC 0 (impl_NatTick_1_c hx6) ?_;clear hx6;(conv=>whnf);refine andI g3 (fun _ g3=>?_) (fun _ g3=>?_)
      · (conv=>whnf);obtain rfl:=Option.some.inj g3;obtain rfl:=hy2 _ rfl;obtain rfl:=Option.some.inj h;exact lfP []
      · (conv=>whnf);obtain rfl:=Option.some.inj g3;exact ⟨_,rfl,leX []⟩
    · (conv=>whnf);obtain rfl:=Option.some.inj g3;obtain rfl:=hy2 _ rfl;obtain rfl:=Option.some.inj h;exact lfP []
noncomputable def impl_NatTick_m (a0:NatBook):Option (NatBook × Int) :=
 bd (impl_NatBookOk_m a0) fun x1 =>
(if (!x1) = true then
 some ((⟨0,0,0,0,0,[],0,[]⟩:NatBook),1)
else
 bd (impl_copyBook_m a0) fun x2 =>
(if (a0.Now == 1000000) = true then
 some (x2,2)
else
 bd (slices_IndexFunc_NatEntry_NatEntry_impl_NatTick_1_m x2.Entries ({ x2 with Now:=IntKind.i64.wrap (x2.Now+1) })) fun x3 =>
(if (x3 == (-1)) = true then
 some ({ x2 with Now:=IntKind.i64.wrap (x2.Now+1) },0)
else
 bd (lp (σ:=List NatEntry × Int × Int) (β:=(Nat × Int × (List NatEntry))) (fun s4 =>
(if (decide (s4.2.2<((s4.1.length:Nat):Int))) = true then
 gd ((0:Int)≤s4.2.2∧s4.2.2<((s4.1.length:Nat):Int)) <|
 bd (impl_NatTick_1_m (s4.1.getD s4.2.2.toNat default) ({ x2 with Now:=IntKind.i64.wrap (x2.Now+1),Entries:=s4.1 })) fun x9 =>
(if (!x9) = true then
 gd ((0:Int)≤s4.2.1∧s4.2.1<((s4.1.length:Nat):Int)) <|
 some (.inl (s4.1.set s4.2.1.toNat (s4.1.getD s4.2.2.toNat default),IntKind.i64.wrap (s4.2.1+1),IntKind.i64.wrap (s4.2.2+1)))
else
 some (.inl (s4.1,s4.2.1,IntKind.i64.wrap (s4.2.2+1))))
else
 some (.inr (s4.1.length,s4.2.1,s4.1)))) (x2.Entries,x3,IntKind.i64.wrap (x3+1))) fun x7 =>
 gd ((0:Int)≤x7.2.1∧x7.2.1≤((x7.1:Nat):Int)∧((x7.1:Nat):Int)≤((x7.1:Nat):Int)) <|
 gd ((0:Int)≤(0:Int)∧(0:Int)≤x7.2.1∧x7.2.1≤((x7.1:Nat):Int)) <|
 some ({ x2 with Now:=IntKind.i64.wrap (x2.Now+1),Entries:=(clrL x7.2.2 x7.2.1.toNat (dsub ((x7.1:Nat):Int) x7.2.1)).take x7.2.1.toNat },0))))
theorem impl_NatTick_c {a0:NatBook} {r:NatBook × Int} (h:impl_NatTick_m a0 = some r):PureC Try.prog 20 [.agg [.d (.int .i64 a0.Addr),.d (.int .i64 a0.Len),.d (.int .i64 a0.Own),.d (.int .i64 a0.Low),.d (.int .i64 a0.High),.d (slD NatDoor.enc a0.Doors),.d (.int .i64 a0.Now),.d (slD NatEntry.enc a0.Entries)]] (.tup [.agg [.d (.int .i64 r.1.Addr),.d (.int .i64 r.1.Len),.d (.int .i64 r.1.Own),.d (.int .i64 r.1.Low),.d (.int .i64 r.1.High),.osl 5001 0 r.1.Doors.length,.d (.int .i64 r.1.Now),.osl 5002 0 r.1.Entries.length],.d (.int .i64 r.2)]) [⟨5001,104,4,r.1.Doors.length,rows NatDoor.enc r.1.Doors⟩,⟨5002,65,7,r.1.Entries.length,rows NatEntry.enc r.1.Entries⟩]:=by
  refine pureC_x tOk (fn:=Try.f20) (c:=codeOf Try.f20) rfl rfl ?_;unfold impl_NatTick_m at h;(conv=>whnf);refine seq_in tOk ?_;(conv=>whnf);obtain ⟨x1,hx1,h⟩:=bd_some h;refine cC 0 (impl_NatBookOk_c hx1) ?_;clear hx1;(conv=>whnf);refine andI h (fun _ h=>?_) (fun _ h=>?_)
  · (conv=>whnf);obtain rfl:=Option.some.inj h;exact lfP [.k [1],.p 5001 104 4 (rows NatDoor.enc ([]:List NatDoor)),.p 5002 65 7 (rows NatEntry.enc ([]:List NatEntry))]
  · (conv=>whnf);obtain ⟨x2,hx2,h⟩:=bd_some h;refine cC 1000 (impl_copyBook_c hx2) ?_;clear hx2;(conv=>whnf);refine seq_in tOk ?_;(conv=>whnf);refine andI h (fun _ h=>?_) (fun _ h=>?_)
    · (conv=>whnf);obtain rfl:=Option.some.inj h;exact lfP [.s [(5001,6001),(5002,6002),(6001,5001),(6002,5002)]]
    · (conv=>whnf);refine callI tOk 20000 (fn:=Try.f52) (c:=codeOf Try.f52) rfl rfl (by kernel_rfl) rfl ?_;(conv=>whnf);obtain ⟨x3,hx3,h⟩:=bd_some h;refine cC 0 (slices_IndexFunc_NatEntry_NatEntry_impl_NatTick_1_c hx3) ?_;clear hx3;(conv=>whnf);refine seq_in tOk ?_;(conv=>whnf);refine andI h (fun _ h=>?_) (fun _ h=>?_)
      · (conv=>whnf);obtain rfl:=Option.some.inj h;exact lfP [.s [(5001,6001),(5002,6002),(6001,5001),(6002,5002)]]
      · (conv=>whnf);refine seq_in tOk ?_;(conv=>whnf);obtain ⟨x7,hx7,h⟩:=bd_some h;refine loop_m tOk hx7 (fun s4=>⟨20000,42,[(0,.osl 6002 0 s4.1.length),(1,.fn 53 [.ref 4 0 0]),(5,.d (.int .i64 s4.2.1)),(6,.d (.int .i64 s4.2.2))],[],[(4,.box 56 [.d (.int .i64 x2.Addr),.d (.int .i64 x2.Len),.d (.int .i64 x2.Own),.d (.int .i64 x2.Low),.d (.int .i64 x2.High),.osl 6001 0 x2.Doors.length,.d (.int .i64 (IntKind.i64.wrap (x2.Now+1))),.osl 6002 0 s4.1.length]),(6002,.arr 65 7 s4.1.length (rows NatEntry.enc s4.1)),(6001,.arr 104 4 x2.Doors.length (rows NatDoor.enc x2.Doors)),(2,.box 56 [.d (.int .i64 0),.d (.int .i64 0),.d (.int .i64 0),.d (.int .i64 0),.d (.int .i64 0),.d (.nil),.d (.int .i64 0),.d (.nil)]),(1,.box 56 [.d (.int .i64 a0.Addr),.d (.int .i64 a0.Len),.d (.int .i64 a0.Own),.d (.int .i64 a0.Low),.d (.int .i64 a0.High),.d (slD NatDoor.enc a0.Doors),.d (.int .i64 a0.Now),.d (slD NatEntry.enc a0.Entries)])],[⟨[(0,.agg [.d (.int .i64 a0.Addr),.d (.int .i64 a0.Len),.d (.int .i64 a0.Own),.d (.int .i64 a0.Low),.d (.int .i64 a0.High),.d (slD NatDoor.enc a0.Doors),.d (.int .i64 a0.Now),.d (slD NatEntry.enc a0.Entries)]),(1,.ref 1 0 0),(2,.ref 2 0 0),(3,.d (.int .i64 0)),(4,.ref 4 0 0),(5,.agg [.d (.int .i64 a0.Addr),.d (.int .i64 a0.Len),.d (.int .i64 a0.Own),.d (.int .i64 a0.Low),.d (.int .i64 a0.High),.d (slD NatDoor.enc a0.Doors),.d (.int .i64 a0.Now),.d (slD NatEntry.enc a0.Entries)]),(6,.d (.bool x1)),(7,.d (.bool (!x1))),(9,.agg [.d (.int .i64 a0.Addr),.d (.int .i64 a0.Len),.d (.int .i64 a0.Own),.d (.int .i64 a0.Low),.d (.int .i64 a0.High),.d (slD NatDoor.enc a0.Doors),.d (.int .i64 a0.Now),.d (slD NatEntry.enc a0.Entries)]),(10,.agg [.d (.int .i64 x2.Addr),.d (.int .i64 x2.Len),.d (.int .i64 x2.Own),.d (.int .i64 x2.Low),.d (.int .i64 x2.High),.osl 6001 0 x2.Doors.length,.d (.int .i64 x2.Now),.osl 6002 0 s4.1.length]),(11,.ref 1 0 6),(12,.d (.int .i64 a0.Now)),(13,.d (.bool (a0.Now == 1000000))),(15,.ref 4 0 6),(16,.d (.int .i64 x2.Now)),(17,.d (.int .i64 (IntKind.i64.wrap (x2.Now+1)))),(18,.ref 4 0 6),(19,.ref 4 0 7),(20,.osl 6002 0 s4.1.length),(21,.fn 53 [.ref 4 0 0])],[]⟩]⟩) ?_ ?_
        · exact leX []
        · clear hx7;intro s4 y5 g6 hy5;(conv=>whnf);refine seq_in tOk ?_;(conv=>whnf);refine andI g6 (fun _ g6=>?_) (fun _ g6=>?_)
          · (conv=>whnf);refine seq_in tOk ?_;(conv=>whnf);refine gdI g6 (fun g6=>?_);(conv=>whnf);obtain ⟨x9,hx9,g6⟩:=bd_some g6;refine cC 0 (impl_NatTick_1_c hx9) ?_;clear hx9;(conv=>whnf);refine andI g6 (fun _ g6=>?_) (fun _ g6=>?_)
            · (conv=>whnf);refine gdI g6 (fun g6=>?_);(conv=>whnf);refine ⟨rows NatEntry.enc (s4.1.set s4.2.1.toNat (s4.1.getD s4.2.2.toNat default)),store_rows' lenA rfl,?_⟩;(conv=>whnf);obtain rfl:=Option.some.inj g6;exact ⟨_,rfl,leX []⟩
            · (conv=>whnf);obtain rfl:=Option.some.inj g6;exact ⟨_,rfl,leX []⟩
          · (conv=>whnf);obtain rfl:=Option.some.inj g6;obtain rfl:=hy5 _ rfl;obtain ⟨g12,h⟩:=gd_some h;refine And.intro g12 ?_;(conv=>whnf);refine ⟨rows NatEntry.enc (clrL (s4.1.length,s4.2.1,s4.1).2.2 (s4.1.length,s4.2.1,s4.1).2.1.toNat (dsub (((s4.1.length,s4.2.1,s4.1).1:Nat):Int) (s4.1.length,s4.2.1,s4.1).2.1)),clr_rows lenA rfl,?_⟩;(conv=>whnf);obtain ⟨g13,h⟩:=gd_some h;refine And.intro g13 ?_;(conv=>whnf);obtain rfl:=Option.some.inj h;exact lfP [.cb 2 7,.s [(5001,6001),(5002,6002),(6001,5001),(6002,5002)]]
noncomputable def laws_wvBook_m (a0:NatBook) (a1:NatBook):Option (Bool) :=
(if ((((((((a0.Addr != a1.Addr) || (a0.Len != a1.Len)) || (a0.Own != a1.Own)) || (a0.Low != a1.Low)) || (a0.High != a1.High)) || (a0.Now != a1.Now)) || (((a0.Doors.length:Nat):Int) != ((a1.Doors.length:Nat):Int))) || (((a0.Entries.length:Nat):Int) != ((a1.Entries.length:Nat):Int))) = true then
 some false
else
 bd (lp (σ:=Int) (β:=(Unit ⊕ Unit)) (fun s1 =>
(if (decide (s1<((a0.Doors.length:Nat):Int))) = true then
 gd ((0:Int)≤s1∧s1<((a0.Doors.length:Nat):Int)) <|
 gd ((0:Int)≤s1∧s1<((a1.Doors.length:Nat):Int)) <|
(if (!((((a0.Doors.getD s1.toNat default).Kind) == ((a1.Doors.getD s1.toNat default).Kind)) && ((((a0.Doors.getD s1.toNat default).Outer) == ((a1.Doors.getD s1.toNat default).Outer)) && ((((a0.Doors.getD s1.toNat default).Inner) == ((a1.Doors.getD s1.toNat default).Inner)) && ((((a0.Doors.getD s1.toNat default).InnerPort) == ((a1.Doors.getD s1.toNat default).InnerPort)) && true))))) = true then
 some (.inr (.inl ()))
else
 some (.inl (IntKind.i64.wrap (s1+1))))
else
 some (.inr (.inr ())))) 0) fun x4 =>
(match x4 with
| .inl d7 =>
 some false
| .inr d8 =>
 bd (lp (σ:=Int) (β:=(Unit ⊕ Unit)) (fun s9 =>
(if (decide (s9<((a0.Entries.length:Nat):Int))) = true then
 gd ((0:Int)≤s9∧s9<((a0.Entries.length:Nat):Int)) <|
 gd ((0:Int)≤s9∧s9<((a1.Entries.length:Nat):Int)) <|
(if (!((((a0.Entries.getD s9.toNat default).Kind) == ((a1.Entries.getD s9.toNat default).Kind)) && ((((a0.Entries.getD s9.toNat default).Peer) == ((a1.Entries.getD s9.toNat default).Peer)) && ((((a0.Entries.getD s9.toNat default).PeerPort) == ((a1.Entries.getD s9.toNat default).PeerPort)) && ((((a0.Entries.getD s9.toNat default).Outer) == ((a1.Entries.getD s9.toNat default).Outer)) && ((((a0.Entries.getD s9.toNat default).Inner) == ((a1.Entries.getD s9.toNat default).Inner)) && ((((a0.Entries.getD s9.toNat default).InnerPort) == ((a1.Entries.getD s9.toNat default).InnerPort)) && ((((a0.Entries.getD s9.toNat default).Last) == ((a1.Entries.getD s9.toNat default).Last)) && true)))))))) = true then
 some (.inr (.inl ()))
else
 some (.inl (IntKind.i64.wrap (s9+1))))
else
 some (.inr (.inr ())))) 0) fun x12 =>
(match x12 with
| .inl d15 =>
 some false
| .inr d16 =>
 some true)))
theorem laws_wvBook_c {a0:NatBook} {a1:NatBook} {r:Bool} (h:laws_wvBook_m a0 a1 = some r):PureC Try.prog 25 [.agg [.d (.int .i64 a0.Addr),.d (.int .i64 a0.Len),.d (.int .i64 a0.Own),.d (.int .i64 a0.Low),.d (.int .i64 a0.High),.d (slD NatDoor.enc a0.Doors),.d (.int .i64 a0.Now),.d (slD NatEntry.enc a0.Entries)],.agg [.d (.int .i64 a1.Addr),.d (.int .i64 a1.Len),.d (.int .i64 a1.Own),.d (.int .i64 a1.Low),.d (.int .i64 a1.High),.d (slD NatDoor.enc a1.Doors),.d (.int .i64 a1.Now),.d (slD NatEntry.enc a1.Entries)]] (.d (.bool r)) []:=by
  refine pureC_x tOk (fn:=Try.f25) (c:=codeOf Try.f25) rfl rfl ?_;unfold laws_wvBook_m at h;(conv=>whnf);refine seq_in tOk ?_;(conv=>whnf);refine andI h (fun _ h=>?_) (fun _ h=>?_)
  · (conv=>whnf);obtain rfl:=Option.some.inj h;exact lfP []
  · (conv=>whnf);refine seq_in tOk ?_;(conv=>whnf);obtain ⟨x4,hx4,h⟩:=bd_some h;refine loop_m tOk hx4 (fun s1=>⟨0,101,[(2,.ref 2 0 0),(3,.ref 3 0 0),(5,.d (.int .i64 s1))],[],[(3,.box 56 [.d (.int .i64 a1.Addr),.d (.int .i64 a1.Len),.d (.int .i64 a1.Own),.d (.int .i64 a1.Low),.d (.int .i64 a1.High),.d (slD NatDoor.enc a1.Doors),.d (.int .i64 a1.Now),.d (slD NatEntry.enc a1.Entries)]),(2,.box 56 [.d (.int .i64 a0.Addr),.d (.int .i64 a0.Len),.d (.int .i64 a0.Own),.d (.int .i64 a0.Low),.d (.int .i64 a0.High),.d (slD NatDoor.enc a0.Doors),.d (.int .i64 a0.Now),.d (slD NatEntry.enc a0.Entries)])],[]⟩) ?_ ?_
    · exact leX []
    · clear hx4;intro s1 y2 g3 hy2;(conv=>whnf);refine seq_in tOk ?_;(conv=>whnf);refine andI g3 (fun _ g3=>?_) (fun _ g3=>?_)
      · (conv=>whnf);refine seq_in tOk ?_;(conv=>whnf);obtain ⟨g5,g3⟩:=gd_some g3;obtain ⟨g6,g3⟩:=gd_some g3;refine draw_u tOk [] 11 [] [0,1,0,7,15,0,32,0,224,480,1023] [] ?_;(conv=>whnf);refine And.intro g5 ?_;clear g5;(conv=>whnf);refine And.intro g6 ?_;clear g6;(conv=>whnf);refine And.intro (by kernel_rfl) ?_;(conv=>whnf);refine andI g3 (fun _ g3=>?_) (fun _ g3=>?_)
        · (conv=>whnf);obtain rfl:=Option.some.inj g3;obtain rfl:=hy2 _ rfl;obtain rfl:=Option.some.inj h;exact lfP []
        · (conv=>whnf);obtain rfl:=Option.some.inj g3;exact ⟨_,rfl,leX []⟩
      · (conv=>whnf);obtain rfl:=Option.some.inj g3;obtain rfl:=hy2 _ rfl;refine seq_in tOk ?_;(conv=>whnf);obtain ⟨x12,hx12,h⟩:=bd_some h;refine loop_m tOk hx12 (fun s9=>⟨0,101,[(2,.ref 2 0 0),(3,.ref 3 0 0),(6,.d (.int .i64 s9))],[],[(3,.box 56 [.d (.int .i64 a1.Addr),.d (.int .i64 a1.Len),.d (.int .i64 a1.Own),.d (.int .i64 a1.Low),.d (.int .i64 a1.High),.d (slD NatDoor.enc a1.Doors),.d (.int .i64 a1.Now),.d (slD NatEntry.enc a1.Entries)]),(2,.box 56 [.d (.int .i64 a0.Addr),.d (.int .i64 a0.Len),.d (.int .i64 a0.Own),.d (.int .i64 a0.Low),.d (.int .i64 a0.High),.d (slD NatDoor.enc a0.Doors),.d (.int .i64 a0.Now),.d (slD NatEntry.enc a0.Entries)])],[]⟩) ?_ ?_
        · exact leX []
        · clear hx12;intro s9 y10 g11 hy10;(conv=>whnf);refine seq_in tOk ?_;(conv=>whnf);refine andI g11 (fun _ g11=>?_) (fun _ g11=>?_)
          · (conv=>whnf);refine seq_in tOk ?_;(conv=>whnf);obtain ⟨g13,g11⟩:=gd_some g11;obtain ⟨g14,g11⟩:=gd_some g11;refine draw_u tOk [] 11 [] [0,1,0,7,15,0,32,0,224,480,1023] [] ?_;(conv=>whnf);refine And.intro g13 ?_;clear g13;(conv=>whnf);refine And.intro g14 ?_;clear g14;(conv=>whnf);refine And.intro (by kernel_rfl) ?_;(conv=>whnf);refine andI g11 (fun _ g11=>?_) (fun _ g11=>?_)
            · (conv=>whnf);obtain rfl:=Option.some.inj g11;obtain rfl:=hy10 _ rfl;obtain rfl:=Option.some.inj h;exact lfP []
            · (conv=>whnf);obtain rfl:=Option.some.inj g11;exact ⟨_,rfl,leX []⟩
          · (conv=>whnf);obtain rfl:=Option.some.inj g11;obtain rfl:=hy10 _ rfl;obtain rfl:=Option.some.inj h;exact lfP []
noncomputable def impl_NatBack_m (a0:NatFlow):Option (NatFlow) :=
 some (⟨a0.Kind,a0.To,a0.ToPort,a0.From,a0.FromPort⟩:NatFlow)
theorem impl_NatBack_c {a0:NatFlow} {r:NatFlow} (h:impl_NatBack_m a0 = some r):PureC Try.prog 66 [.agg [.d (.int .i64 a0.Kind),.d (.int .i64 a0.From),.d (.int .i64 a0.FromPort),.d (.int .i64 a0.To),.d (.int .i64 a0.ToPort)]] (.agg [.d (.int .i64 r.Kind),.d (.int .i64 r.From),.d (.int .i64 r.FromPort),.d (.int .i64 r.To),.d (.int .i64 r.ToPort)]) []:=by
  refine pureC_x tOk (fn:=Try.f66) (c:=codeOf Try.f66) rfl rfl ?_;unfold impl_NatBack_m at h;(conv=>whnf);obtain rfl:=Option.some.inj h;exact lfP []
noncomputable def impl_NatIn_m (a0:NatBook) (a1:NatFlow):Option (NatFlow × Int) :=
 bd (impl_NatBookOk_m a0) fun x1 =>
(if (!x1) = true then
 some ((⟨0,0,0,0,0⟩:NatFlow),1)
else
 bd (impl_NatFlowOk_m a1) fun x2 =>
(if (!x2) = true then
 some ((⟨0,0,0,0,0⟩:NatFlow),2)
else
 bd (gcall ((a1.To != a0.Own) = false) (impl_NatBook_inside_m a0 a1.From)) fun x3 =>
(if (((a1.To != a0.Own) || x3) || (a1.From == a0.Own)) = true then
 some ((⟨0,0,0,0,0⟩:NatFlow),3)
else
 bd (lp (σ:=Int) (β:=((Int × Int) ⊕ Unit)) (fun s4 =>
(if (decide (s4<((a0.Doors.length:Nat):Int))) = true then
 gd ((0:Int)≤s4∧s4<((a0.Doors.length:Nat):Int)) <|
(if ((((a0.Doors.getD s4.toNat default).Kind) == a1.Kind) && (((a0.Doors.getD s4.toNat default).Outer) == a1.ToPort)) = true then
 some (.inr (.inl ((a0.Doors.getD s4.toNat default).Inner,(a0.Doors.getD s4.toNat default).InnerPort)))
else
 some (.inl (IntKind.i64.wrap (s4+1))))
else
 some (.inr (.inr ())))) 0) fun x7 =>
(match x7 with
| .inl d9 =>
 some ({ a1 with To:=d9.1,ToPort:=d9.2 },0)
| .inr d10 =>
 bd (lp (σ:=Int) (β:=((Int × Int × Int × Int × Int) ⊕ Unit)) (fun s11 =>
(if (decide (s11<((a0.Entries.length:Nat):Int))) = true then
 gd ((0:Int)≤s11∧s11<((a0.Entries.length:Nat):Int)) <|
 bd (impl_NatBook_lives_m a0 (a0.Entries.getD s11.toNat default)) fun x16 =>
(if ((((x16 && (((a0.Entries.getD s11.toNat default).Kind) == a1.Kind)) && (((a0.Entries.getD s11.toNat default).Peer) == a1.From)) && (((a0.Entries.getD s11.toNat default).PeerPort) == a1.FromPort)) && (((a0.Entries.getD s11.toNat default).Outer) == a1.ToPort)) = true then
 bd (impl_NatEntry_flow_m (a0.Entries.getD s11.toNat default)) fun x17 =>
 bd (impl_NatBack_m x17) fun x18 =>
 some (.inr (.inl (x18.Kind,x18.From,x18.FromPort,x18.To,x18.ToPort)))
else
 some (.inl (IntKind.i64.wrap (s11+1))))
else
 some (.inr (.inr ())))) 0) fun x14 =>
(match x14 with
| .inl d19 =>
 some ((⟨d19.1,d19.2.1,d19.2.2.1,d19.2.2.2.1,d19.2.2.2.2⟩:NatFlow),0)
| .inr d20 =>
 some ((⟨0,0,0,0,0⟩:NatFlow),6))))))
theorem impl_NatIn_c {a0:NatBook} {a1:NatFlow} {r:NatFlow × Int} (h:impl_NatIn_m a0 a1 = some r):PureC Try.prog 26 [.agg [.d (.int .i64 a0.Addr),.d (.int .i64 a0.Len),.d (.int .i64 a0.Own),.d (.int .i64 a0.Low),.d (.int .i64 a0.High),.d (slD NatDoor.enc a0.Doors),.d (.int .i64 a0.Now),.d (slD NatEntry.enc a0.Entries)],.agg [.d (.int .i64 a1.Kind),.d (.int .i64 a1.From),.d (.int .i64 a1.FromPort),.d (.int .i64 a1.To),.d (.int .i64 a1.ToPort)]] (.tup [.agg [.d (.int .i64 r.1.Kind),.d (.int .i64 r.1.From),.d (.int .i64 r.1.FromPort),.d (.int .i64 r.1.To),.d (.int .i64 r.1.ToPort)],.d (.int .i64 r.2)]) []:=by
  refine pureC_x tOk (fn:=Try.f26) (c:=codeOf Try.f26) rfl rfl ?_;unfold impl_NatIn_m at h;(conv=>whnf);refine seq_in tOk ?_;(conv=>whnf);obtain ⟨x1,hx1,h⟩:=bd_some h;refine cC 0 (impl_NatBookOk_c hx1) ?_;clear hx1;(conv=>whnf);refine andI h (fun _ h=>?_) (fun _ h=>?_)
  · (conv=>whnf);obtain rfl:=Option.some.inj h;exact lfP []
  · (conv=>whnf);obtain ⟨x2,hx2,h⟩:=bd_some h;refine cC 0 (impl_NatFlowOk_c hx2) ?_;clear hx2;(conv=>whnf);refine andI h (fun _ h=>?_) (fun _ h=>?_)
    · (conv=>whnf);obtain rfl:=Option.some.inj h;exact lfP []
    · (conv=>whnf);obtain ⟨x3,hx3,h⟩:=bd_some h;refine cG (fun c0=>impl_NatBook_inside_c (gcall_some hx3 c0)) ?_;(conv=>whnf);refine andI h (fun _ h=>?_) (fun _ h=>?_)
      · (conv=>whnf);obtain rfl:=Option.some.inj h;exact lfP []
      · (conv=>whnf);refine seq_in tOk ?_;(conv=>whnf);obtain ⟨x7,hx7,h⟩:=bd_some h;refine loop_m tOk hx7 (fun s4=>⟨0,114,[(2,.ref 2 0 0),(3,.ref 3 0 0),(4,.ref 4 0 0),(41,.d (slD NatDoor.enc a0.Doors)),(42,.d (.int .i64 ((a0.Doors.length:Nat):Int))),(43,.d (.int .i64 s4))],[],[(4,.box 67 [.d (.int .i64 0),.d (.int .i64 0),.d (.int .i64 0),.d (.int .i64 0),.d (.int .i64 0)]),(3,.box 67 [.d (.int .i64 a1.Kind),.d (.int .i64 a1.From),.d (.int .i64 a1.FromPort),.d (.int .i64 a1.To),.d (.int .i64 a1.ToPort)]),(2,.box 56 [.d (.int .i64 a0.Addr),.d (.int .i64 a0.Len),.d (.int .i64 a0.Own),.d (.int .i64 a0.Low),.d (.int .i64 a0.High),.d (slD NatDoor.enc a0.Doors),.d (.int .i64 a0.Now),.d (slD NatEntry.enc a0.Entries)])],[]⟩) ?_ ?_
        · exact leX []
        · clear hx7;intro s4 y5 g6 hy5;(conv=>whnf);refine seq_in tOk ?_;(conv=>whnf);refine andI g6 (fun _ g6=>?_) (fun _ g6=>?_)
          · (conv=>whnf);refine seq_in tOk ?_;(conv=>whnf);refine gdI g6 (fun g6=>?_);(conv=>whnf);refine andI g6 (fun _ g6=>?_) (fun _ g6=>?_)
            · (conv=>whnf);obtain rfl:=Option.some.inj g6;obtain rfl:=hy5 _ rfl;obtain rfl:=Option.some.inj h;exact lfP []
            · (conv=>whnf);obtain rfl:=Option.some.inj g6;exact ⟨_,rfl,leX []⟩
          · (conv=>whnf);obtain rfl:=Option.some.inj g6;obtain rfl:=hy5 _ rfl;refine seq_in tOk ?_;(conv=>whnf);obtain ⟨x14,hx14,h⟩:=bd_some h;refine loop_m tOk hx14 (fun s11=>⟨0,114,[(2,.ref 2 0 0),(3,.ref 3 0 0),(4,.ref 4 0 0),(72,.d (slD NatEntry.enc a0.Entries)),(73,.d (.int .i64 ((a0.Entries.length:Nat):Int))),(74,.d (.int .i64 s11))],[],[(4,.box 67 [.d (.int .i64 0),.d (.int .i64 0),.d (.int .i64 0),.d (.int .i64 0),.d (.int .i64 0)]),(3,.box 67 [.d (.int .i64 a1.Kind),.d (.int .i64 a1.From),.d (.int .i64 a1.FromPort),.d (.int .i64 a1.To),.d (.int .i64 a1.ToPort)]),(2,.box 56 [.d (.int .i64 a0.Addr),.d (.int .i64 a0.Len),.d (.int .i64 a0.Own),.d (.int .i64 a0.Low),.d (.int .i64 a0.High),.d (slD NatDoor.enc a0.Doors),.d (.int .i64 a0.Now),.d (slD NatEntry.enc a0.Entries)])],[]⟩) ?_ ?_
            · exact leX []
            · clear hx14;intro s11 y12 g13 hy12;(conv=>whnf);refine seq_in tOk ?_;(conv=>whnf);refine andI g13 (fun _ g13=>?_) (fun _ g13=>?_)
              · (conv=>whnf);refine seq_in tOk ?_;(conv=>whnf);refine gdI g13 (fun g13=>?_);(conv=>whnf);obtain ⟨x16,hx16,g13⟩:=bd_some g13;refine cC 0 (impl_NatBook_lives_c hx16) ?_;clear hx16;(conv=>whnf);refine andI g13 (fun _ g13=>?_) (fun _ g13=>?_)
                · (conv=>whnf);obtain ⟨x17,hx17,g13⟩:=bd_some g13;refine cC 0 (impl_NatEntry_flow_c hx17) ?_;clear hx17;(conv=>whnf);obtain ⟨x18,hx18,g13⟩:=bd_some g13;refine cC 0 (impl_NatBack_c hx18) ?_;clear hx18;(conv=>whnf);obtain rfl:=Option.some.inj g13;obtain rfl:=hy12 _ rfl;obtain rfl:=Option.some.inj h;exact lfP []
                · (conv=>whnf);obtain rfl:=Option.some.inj g13;exact ⟨_,rfl,leX []⟩
              · (conv=>whnf);obtain rfl:=Option.some.inj g13;obtain rfl:=hy12 _ rfl;obtain rfl:=Option.some.inj h;exact lfP []
noncomputable def spec_l25InFlow_m (a0:l21Rd) (a1:NatBook):Option (NatFlow × l21Rd) :=
 bd (spec_l21Rd_pick_m a0 2) fun x1 =>
 bd (spec_l25Peer_m (⟨a0.b,x1.2.p⟩:l21Rd)) fun x2 =>
 bd (spec_l21Rd_pick_m (⟨a0.b,x2.2.p⟩:l21Rd) 3) fun x3 =>
 gd ((0:Int)≤x3.1∧x3.1<((([80,443,7]:List Int).length:Nat):Int)) <|
 bd (spec_l21Rd_pick_m (⟨a0.b,x3.2.p⟩:l21Rd) 6) fun x5 =>
 bd (α:=Int × Int × Int) (bd (gcallE ((decide (((a1.Doors.length:Nat):Int) > 0)) = true) (spec_l21Rd_pick_m (⟨a0.b,x5.2.p⟩:l21Rd) 3) ((⟨a0.b,x5.2.p⟩:l21Rd))) fun x9 =>
(if ((decide (((a1.Doors.length:Nat):Int) > 0)) && (x9.1 == 0)) = true then
 bd (spec_l21Rd_pick_m (⟨a0.b,x9.2.p⟩:l21Rd) ((a1.Doors.length:Nat):Int)) fun x10 =>
 gd ((0:Int)≤x10.1∧x10.1<((a1.Doors.length:Nat):Int)) <|
 some ((a1.Doors.getD x10.1.toNat default).Kind,(a1.Doors.getD x10.1.toNat default).Outer,x10.2.p)
else
 some (IntKind.i64.wrap (1+x1.1),IntKind.i64.wrap (39+x5.1),x9.2.p))) fun x6 =>
 bd (gcallE ((decide (((a1.Entries.length:Nat):Int) > 0)) = true) (spec_l21Rd_pick_m (⟨a0.b,x6.2.2⟩:l21Rd) 3) ((⟨a0.b,x6.2.2⟩:l21Rd))) fun x12 =>
(if ((decide (((a1.Entries.length:Nat):Int) > 0)) && (decide (x12.1 > 0))) = true then
 bd (spec_l21Rd_pick_m (⟨a0.b,x12.2.p⟩:l21Rd) ((a1.Entries.length:Nat):Int)) fun x13 =>
 gd ((0:Int)≤x13.1∧x13.1<((a1.Entries.length:Nat):Int)) <|
 bd (spec_l21Rd_pick_m (⟨a0.b,x13.2.p⟩:l21Rd) 9) fun x15 =>
(if (x15.1 == 0) = true then
 gd ((100:Int) ≠ 0) <|
 some ((⟨(a1.Entries.getD x13.1.toNat default).Kind,(a1.Entries.getD x13.1.toNat default).Peer,IntKind.i64.wrap ((((a1.Entries.getD x13.1.toNat default).PeerPort:Int).tmod 100)+1),a1.Own,(a1.Entries.getD x13.1.toNat default).Outer⟩:NatFlow),(⟨a0.b,x15.2.p⟩:l21Rd))
else
(if (x15.1 == 1) = true then
 bd (spec_l25Peer_m (⟨a0.b,x15.2.p⟩:l21Rd)) fun x17 =>
 some ((⟨(a1.Entries.getD x13.1.toNat default).Kind,x17.1,(a1.Entries.getD x13.1.toNat default).PeerPort,a1.Own,(a1.Entries.getD x13.1.toNat default).Outer⟩:NatFlow),(⟨a0.b,x17.2.p⟩:l21Rd))
else
(if (x15.1 == 2) = true then
 gd ((3:Int) ≠ 0) <|
 some ((⟨IntKind.i64.wrap (3 - (((a1.Entries.getD x13.1.toNat default).Kind:Int).tmod 3)),(a1.Entries.getD x13.1.toNat default).Peer,(a1.Entries.getD x13.1.toNat default).PeerPort,a1.Own,(a1.Entries.getD x13.1.toNat default).Outer⟩:NatFlow),(⟨a0.b,x15.2.p⟩:l21Rd))
else
 some ((⟨(a1.Entries.getD x13.1.toNat default).Kind,(a1.Entries.getD x13.1.toNat default).Peer,(a1.Entries.getD x13.1.toNat default).PeerPort,a1.Own,(a1.Entries.getD x13.1.toNat default).Outer⟩:NatFlow),(⟨a0.b,x15.2.p⟩:l21Rd)))))
else
 some ((⟨x6.1,x2.1,(([80,443,7]:List Int).getD x3.1.toNat default),a1.Own,x6.2.1⟩:NatFlow),(⟨a0.b,x12.2.p⟩:l21Rd)))
theorem spec_l25InFlow_c {a0:l21Rd} {a1:NatBook} {r:NatFlow × l21Rd} (h:spec_l25InFlow_m a0 a1 = some r):EffC Try.prog 71 [.ref 9000 0 0,.agg [.d (.int .i64 a1.Addr),.d (.int .i64 a1.Len),.d (.int .i64 a1.Own),.d (.int .i64 a1.Low),.d (.int .i64 a1.High),.d (slD NatDoor.enc a1.Doors),.d (.int .i64 a1.Now),.d (slD NatEntry.enc a1.Entries)]] [(9000,.box 155 [.d (slD encByte a0.b),.d (.int .i64 a0.p)])] (.agg [.d (.int .i64 r.1.Kind),.d (.int .i64 r.1.From),.d (.int .i64 r.1.FromPort),.d (.int .i64 r.1.To),.d (.int .i64 r.1.ToPort)]) [(9000,.box 155 [.d (slD encByte a0.b),.d (.int .i64 r.2.p)])]:=by
  refine effC_x tOk (fn:=Try.f71) (c:=codeOf Try.f71) rfl rfl ?_;unfold spec_l25InFlow_m at h;(conv=>whnf);obtain ⟨x1,hx1,h⟩:=bd_some h;obtain ⟨x2,hx2,h⟩:=bd_some h;obtain ⟨x3,hx3,h⟩:=bd_some h;obtain ⟨g4,h⟩:=gd_some h;obtain ⟨x5,hx5,h⟩:=bd_some h;refine draw_t tOk [.e 1 [(9000,.box 155 [.d (slD encByte a0.b),.d (.int .i64 a0.p)])] (.d (.int .i64 x1.1)) [] [(9000,.box 155 [.d (slD encByte a0.b),.d (.int .i64 x1.2.p)])],.e 4 [(9000,.box 155 [.d (slD encByte a0.b),.d (.int .i64 x1.2.p)])] (.d (.int .i64 x2.1)) [] [(9000,.box 155 [.d (slD encByte a0.b),.d (.int .i64 x2.2.p)])],.e 7 [(9000,.box 155 [.d (slD encByte a0.b),.d (.int .i64 x2.2.p)])] (.d (.int .i64 x3.1)) [] [(9000,.box 155 [.d (slD encByte a0.b),.d (.int .i64 x3.2.p)])],.e 13 [(9000,.box 155 [.d (slD encByte a0.b),.d (.int .i64 x3.2.p)])] (.d (.int .i64 x5.1)) [] [(9000,.box 155 [.d (slD encByte a0.b),.d (.int .i64 x5.2.p)])]] 17 [] [0,1,3,0,11,0,0,91,251,507,0,1024,0,4315,12507,32767,0] [131071] [9000] ?_;(conv=>whnf);refine And.intro (eD [(9000,9000)] 0 (spec_l21Rd_pick_c hx1)) ?_;(conv=>whnf);refine And.intro (eD [(9000,9000)] 0 (spec_l25Peer_c hx2)) ?_;(conv=>whnf);refine bldS (enc:=encInt) ([80,443,7]:List Int) ?_;(conv=>whnf);refine And.intro (eD [(9000,9000)] 0 (spec_l21Rd_pick_c hx3)) ?_;(conv=>whnf);refine And.intro g4 ?_;clear g4;(conv=>whnf);refine And.intro (eD [(9000,9000)] 0 (spec_l21Rd_pick_c hx5)) ?_;(conv=>whnf);refine And.intro (by kernel_rfl) ?_;(conv=>whnf);obtain ⟨x6,hx6,h⟩:=bd_some h;refine seq_join tOk (fun s7=>⟨0,99,[(0,.ref 9000 0 0),(3,.ref 3 0 0),(4,.ref 4 0 0),(5,.ref 5 0 0)],[],[(5,.box 67 [.d (.int .i64 s7.1),.d (.int .i64 x2.1),.d (.int .i64 (([80,443,7]:List Int).getD x3.1.toNat default)),.d (.int .i64 a1.Own),.d (.int .i64 s7.2.1)]),(4,.box 67 [.d (.int .i64 0),.d (.int .i64 0),.d (.int .i64 0),.d (.int .i64 0),.d (.int .i64 0)]),(3,.box 56 [.d (.int .i64 a1.Addr),.d (.int .i64 a1.Len),.d (.int .i64 a1.Own),.d (.int .i64 a1.Low),.d (.int .i64 a1.High),.d (slD NatDoor.enc a1.Doors),.d (.int .i64 a1.Now),.d (slD NatEntry.enc a1.Entries)]),(9000,.box 155 [.d (slD encByte a0.b),.d (.int .i64 s7.2.2)])],[⟨[(0,.ref 9000 0 0)],[]⟩]⟩) (fun s7=>x6 = s7) ?_ ?_
  · (conv=>whnf);obtain ⟨x9,hx9,hx6⟩:=bd_some hx6;refine callG_e [(9000,9000)] 0 rfl rfl rfl (by intro c0; exact spec_l21Rd_pick_c (gcallE_some hx9 c0)) argA inA rfl rfl (by intro c0; have e:=gcallE_none hx9 (by first | (rw [c0]; decide) | exact fun e=>Bool.noConfusion (e.symm.trans c0)); subst e; exact inA) ?_;(conv=>whnf);refine andI hx6 (fun _ hx6=>?_) (fun _ hx6=>?_)
    · (conv=>whnf);obtain ⟨x10,hx10,hx6⟩:=bd_some hx6;obtain ⟨g11,hx6⟩:=gd_some hx6;refine draw_t tOk [.e 6 [(9000,.box 155 [.d (slD encByte a0.b),.d (.int .i64 x9.2.p)])] (.d (.int .i64 x10.1)) [] [(9000,.box 155 [.d (slD encByte a0.b),.d (.int .i64 x10.2.p)])]] 10 [] [0,1,0,0,8,24,60,127,255,0] [1023] [9000] ?_;(conv=>whnf);refine And.intro (eD [(9000,9000)] 0 (spec_l21Rd_pick_c hx10)) ?_;(conv=>whnf);refine And.intro g11 ?_;clear g11;(conv=>whnf);refine And.intro (by kernel_rfl) ?_;(conv=>whnf);obtain rfl:=Option.some.inj hx6;exact ⟨_,rfl,leX []⟩
    · (conv=>whnf);obtain rfl:=Option.some.inj hx6;exact ⟨_,rfl,leX []⟩
  · rintro _ rfl;(conv=>whnf);refine seq_in tOk ?_;(conv=>whnf);obtain ⟨x12,hx12,h⟩:=bd_some h;refine callG_e [(9000,9000)] 0 rfl rfl rfl (by intro c0; exact spec_l21Rd_pick_c (gcallE_some hx12 c0)) argA inA rfl rfl (by intro c0; have e:=gcallE_none hx12 (by first | (rw [c0]; decide) | exact fun e=>Bool.noConfusion (e.symm.trans c0)); subst e; exact inA) ?_;(conv=>whnf);refine andI h (fun _ h=>?_) (fun _ h=>?_)
    · (conv=>whnf);obtain ⟨x13,hx13,h⟩:=bd_some h;obtain ⟨g14,h⟩:=gd_some h;refine draw_t tOk [.e 6 [(9000,.box 155 [.d (slD encByte a0.b),.d (.int .i64 x12.2.p)])] (.d (.int .i64 x13.1)) [] [(9000,.box 155 [.d (slD encByte a0.b),.d (.int .i64 x13.2.p)])]] 10 [] [0,1,0,0,8,24,60,127,255,0] [1023] [9000] ?_;(conv=>whnf);refine And.intro (eD [(9000,9000)] 0 (spec_l21Rd_pick_c hx13)) ?_;(conv=>whnf);refine And.intro g14 ?_;clear g14;(conv=>whnf);refine And.intro (by kernel_rfl) ?_;(conv=>whnf);obtain ⟨x15,hx15,h⟩:=bd_some h;refine cE [(9000,9000)] 0 (spec_l21Rd_pick_c hx15) ?_;(conv=>whnf);refine andI h (fun _ h=>?_) (fun _ h=>?_)
      · (conv=>whnf);refine gdI h (fun h=>?_);(conv=>whnf);obtain rfl:=Option.some.inj h;exact lfE []
      · (conv=>whnf);refine andI h (fun _ h=>?_) (fun _ h=>?_)
        · (conv=>whnf);obtain ⟨x17,hx17,h⟩:=bd_some h;refine cE [(9000,9000)] 0 (spec_l25Peer_c hx17) ?_;(conv=>whnf);obtain rfl:=Option.some.inj h;exact lfE []
        · (conv=>whnf);refine andI h (fun _ h=>?_) (fun _ h=>?_)
          · (conv=>whnf);refine gdI h (fun h=>?_);(conv=>whnf);obtain rfl:=Option.some.inj h;exact lfE []
          · (conv=>whnf);obtain rfl:=Option.some.inj h;exact lfE []
    · (conv=>whnf);obtain rfl:=Option.some.inj h;exact lfE []
end Go.Proofs.Ytejhbiefhpgjeaa
